/-
  Contracts of the tests of hides and of pieces, the program. No condition of its own.
-/
import Derived.Test.YthemlamdchcicaaGreatDoorGHideW
import Derived.Test.YthemlamdchcicaaGreatDoorShelf
import Derived.Shelf.Strings.SlTrimAscii
namespace Go.Proofs.YthemlamdchcicaaGreatDoor
open Go.ChangeShapes Go.WideShapes Go.ChangeAt Go.RowKit Go.Deep Go.Shelf

set_option maxHeartbeats 1600000 in
theorem indexStr_any (a : Option Addr) (n c : Nat) (rows : List ByteArray) (p : Nat → Bool) (g : Nat) (lb : Array Value) (w : World) (eg : ∀ args w, (callFunc g args).run Tryz.prog w = .ok (.enter g args) w)
    (hz : rows.length = n) (hn : n ≤ 1073741824) (hc : CellsAt w a (strs rows))
    (hp : ∀ (k : Nat) (r : ByteArray) (W : World), Below w.heap.size w W → rows[k]? = some r → Calls Tryz.prog g (#[.string r] ++ lb) W fun e W' => e = .returned (.bool (p k)) ∧ Below W.heap.size W W') :
    Calls Tryz.prog 107 #[.slice a n c, .func (.func g) #[] lb] w fun e w' => e = .returned (.int .i64 (idxI p (List.range n))) ∧ Below w.heap.size w w' := by
  by_cases h0 : n = 0
  · subst h0
    clear hz hc hp eg
    go_enter Tryz.func107, Tryz.ntmps107
    go_wp2
    refine wp_loop_once ?_
    go_wp2
    go_ret
    exact ⟨rfl, Below.refl _ _⟩
  · obtain ⟨b, off, rfl, hb, hcell⟩ := hc.at_ (by rw [strs_len]; omega)
    have Hc := Lib.hid hcell
    have Hz := Lib.hid hz
    have Hp := Lib.hid hp
    clear hcell hz hp hc
    go_enter Tryz.func107, Tryz.ntmps107
    go_wp2
    go_loopw [5, 8] (fun _ i wr => ∃ k : Nat, k ≤ n ∧ i = .int .i64 k ∧ Below w.heap.size w wr ∧ Hid (∀ j, j < k → p j = false)) (fun _ i _ => n - (intOf i).toNat)
    case atStart => exact ⟨0, Nat.zero_le _, rfl, Below.refl _ _, Lib.hid (fun j hj => absurd hj (Nat.not_lt_zero _))⟩
    case round =>
      obtain ⟨k, hk, rfl, hbw, hno⟩ := hrel
      by_cases hlt : k < n
      · obtain ⟨r, hr⟩ : ∃ r, rows[k]? = some r := ⟨rows[k]'(by have := Hz.out; omega), List.getElem?_eq_getElem _⟩
        have hcall := Hp.out k r wr hbw hr
        have hc0 := str_cell hb hbw Hc.out hr
        have Hb := Lib.hid hbw
        clear hbw hr
        have hlt' : (k : Int) < (n : Int) := by omega
        cases hq : p k with
        | true =>
          rw [hq] at hcall
          have Hq := Lib.hid hq
          clear hq
          go_wp2_with (go_at_fn g; refine hcall.mono ?_; rintro e w' ⟨rfl, hb'⟩)
          go_ret
          exact ⟨ret_int (idxI_hit (p := p) (zs := List.range n) (k := k) (x := k) (by simp [hlt]) Hq.out (fun j y hj hy => by
            have hjn : j < n := by omega
            simp [hjn] at hy
            rw [← hy]; exact hno.out j hj)).symm, Hb.out.trans (hb'.mono Hb.out.size)⟩
        | false =>
          rw [hq] at hcall
          have Hq := Lib.hid hq
          clear hq
          go_wp2_with (go_at_fn g; refine hcall.mono ?_; rintro e w' ⟨rfl, hb'⟩)
          go_roundw
          case rel =>
            refine ⟨k + 1, by omega, by go_num, Hb.out.trans (hb'.mono Hb.out.size), Lib.hid (fun j hj => ?_)⟩
            by_cases e : j = k
            · subst e; exact Hq.out
            · exact hno.out j (by omega)
          case measure => simp [intOf]; omega
      · go_wp2
        go_ret
        have e : k = n := by omega
        subst e
        refine ⟨ret_int (idxI_none (p := p) (zs := List.range k) (fun z hz => ?_)).symm, hbw⟩
        exact hno.out z (List.mem_range.1 hz)
theorem containsStr_any (a : Option Addr) (n c : Nat) (rows : List ByteArray) (p : Nat → Bool) (g : Nat) (lb : Array Value) (w : World) (eg : ∀ args w, (callFunc g args).run Tryz.prog w = .ok (.enter g args) w)
    (hz : rows.length = n) (hn : n ≤ 1073741824) (hc : CellsAt w a (strs rows))
    (hp : ∀ (k : Nat) (r : ByteArray) (W : World), Below w.heap.size w W → rows[k]? = some r → Calls Tryz.prog g (#[.string r] ++ lb) W fun e W' => e = .returned (.bool (p k)) ∧ Below W.heap.size W W') :
    Calls Tryz.prog 79 #[.slice a n c, .func (.func g) #[] lb] w fun e w' => e = .returned (.bool ((List.range n).any p)) ∧ Below w.heap.size w w' := by
  have hcon := indexStr_any a n c rows p g lb w eg hz hn hc hp
  have hi := idxI_neg p (List.range n)
  have Hi := Lib.hid hi
  clear hi hz hc hp eg
  generalize idxI p (List.range n) = r at hcon Hi
  generalize (List.range n).any p = q at Hi ⊢
  go_enter Tryz.func79, Tryz.ntmps79
  go_wp2_with (go_at_call 107; refine hcon.mono ?_; rintro e w' ⟨rfl, hb'⟩)
  all_goals
    go_ret
    exact ⟨ret_bool Hi.out, hb'⟩
set_option maxHeartbeats 1600000 in
theorem indexCut_any (a : Option Addr) (n c : Nat) (zs : List Int) (p : Nat → Bool) (g : Nat) (lb : Array Value) (w : World) (eg : ∀ args w, (callFunc g args).run Tryz.prog w = .ok (.enter g args) w)
    (hz : zs.length = n * 4) (hn : n ≤ 1073741824) (hc : CellsAt w a (zs.map (Value.int .i64)))
    (hp : ∀ (k : Nat) (W : World), Below w.heap.size w W → k < n → Calls Tryz.prog g (#[.agg #[.int .i64 (zs.getD (k * 4) 0), .int .i64 (zs.getD (k * 4 + 1) 0), .int .i64 (zs.getD (k * 4 + 2) 0), .int .i64 (zs.getD (k * 4 + 3) 0)]] ++ lb) W fun e W' => e = .returned (.bool (p k)) ∧ Below W.heap.size W W') :
    Calls Tryz.prog 115 #[.slice a n c, .func (.func g) #[] lb] w fun e w' => e = .returned (.int .i64 (idxI p (List.range n))) ∧ Below w.heap.size w w' := by
  by_cases h0 : n = 0
  · subst h0
    clear hz hc hp eg
    go_enter Tryz.func115, Tryz.ntmps115
    go_wp2
    refine wp_loop_once ?_
    go_wp2
    go_ret
    exact ⟨rfl, Below.refl _ _⟩
  · obtain ⟨b, off, rfl, hb, hcell⟩ := hc.at_ (by simp; omega)
    have Hc := Lib.hid hcell
    have Hz := Lib.hid hz
    have Hp := Lib.hid hp
    clear hcell hz hp hc
    go_enter Tryz.func115, Tryz.ntmps115
    go_wp2
    go_loopw [5, 8] (fun _ i wr => ∃ k : Nat, k ≤ n ∧ i = .int .i64 k ∧ Below w.heap.size w wr ∧ Hid (∀ j, j < k → p j = false)) (fun _ i _ => n - (intOf i).toNat)
    case atStart => exact ⟨0, Nat.zero_le _, rfl, Below.refl _ _, Lib.hid (fun j hj => absurd hj (Nat.not_lt_zero _))⟩
    case round =>
      obtain ⟨k, hk, rfl, hbw, hno⟩ := hrel
      by_cases hlt : k < n
      · have hcall := Hp.out k wr hbw hlt
        obtain ⟨x0, hx0⟩ : ∃ x, x = zs.getD (k * 4) 0 := ⟨_, rfl⟩
        have hc0 : wr.cell? ⟨b, off + k * 4, none⟩ = some (.int .i64 x0) := by
          have h := (hbw.cell (p := ⟨b, off + (k * 4), none⟩) hb).trans (Hc.out (k * 4) (by have := Hz.out; simp; omega))
          rw [show off + (k * 4) = off + k * 4 from by omega] at h
          rw [h, hx0]
          simp [List.getElem?_eq_getElem (show k * 4 < zs.length by have := Hz.out; omega)]
        rw [← hx0] at hcall
        clear hx0
        obtain ⟨x1, hx1⟩ : ∃ x, x = zs.getD (k * 4 + 1) 0 := ⟨_, rfl⟩
        have hc1 : wr.cell? ⟨b, off + k * 4 + 1, none⟩ = some (.int .i64 x1) := by
          have h := (hbw.cell (p := ⟨b, off + (k * 4 + 1), none⟩) hb).trans (Hc.out (k * 4 + 1) (by have := Hz.out; simp; omega))
          rw [show off + (k * 4 + 1) = off + k * 4 + 1 from by omega] at h
          rw [h, hx1]
          simp [List.getElem?_eq_getElem (show k * 4 + 1 < zs.length by have := Hz.out; omega)]
        rw [← hx1] at hcall
        clear hx1
        obtain ⟨x2, hx2⟩ : ∃ x, x = zs.getD (k * 4 + 2) 0 := ⟨_, rfl⟩
        have hc2 : wr.cell? ⟨b, off + k * 4 + 2, none⟩ = some (.int .i64 x2) := by
          have h := (hbw.cell (p := ⟨b, off + (k * 4 + 2), none⟩) hb).trans (Hc.out (k * 4 + 2) (by have := Hz.out; simp; omega))
          rw [show off + (k * 4 + 2) = off + k * 4 + 2 from by omega] at h
          rw [h, hx2]
          simp [List.getElem?_eq_getElem (show k * 4 + 2 < zs.length by have := Hz.out; omega)]
        rw [← hx2] at hcall
        clear hx2
        obtain ⟨x3, hx3⟩ : ∃ x, x = zs.getD (k * 4 + 3) 0 := ⟨_, rfl⟩
        have hc3 : wr.cell? ⟨b, off + k * 4 + 3, none⟩ = some (.int .i64 x3) := by
          have h := (hbw.cell (p := ⟨b, off + (k * 4 + 3), none⟩) hb).trans (Hc.out (k * 4 + 3) (by have := Hz.out; simp; omega))
          rw [show off + (k * 4 + 3) = off + k * 4 + 3 from by omega] at h
          rw [h, hx3]
          simp [List.getElem?_eq_getElem (show k * 4 + 3 < zs.length by have := Hz.out; omega)]
        rw [← hx3] at hcall
        clear hx3
        have Hb := Lib.hid hbw
        clear hbw
        have hlt' : (k : Int) < (n : Int) := by omega
        cases hq : p k with
        | true =>
          rw [hq] at hcall
          have Hq := Lib.hid hq
          clear hq
          go_wp2_with (go_at_fn g; refine hcall.mono ?_; rintro e w' ⟨rfl, hb'⟩)
          go_ret
          exact ⟨ret_int (idxI_hit (p := p) (zs := List.range n) (k := k) (x := k) (by simp [hlt]) Hq.out (fun j y hj hy => by
            have hjn : j < n := by omega
            simp [hjn] at hy
            rw [← hy]; exact hno.out j hj)).symm, Hb.out.trans (hb'.mono Hb.out.size)⟩
        | false =>
          rw [hq] at hcall
          have Hq := Lib.hid hq
          clear hq
          go_wp2_with (go_at_fn g; refine hcall.mono ?_; rintro e w' ⟨rfl, hb'⟩)
          go_roundw
          case rel =>
            refine ⟨k + 1, by omega, by go_num, Hb.out.trans (hb'.mono Hb.out.size), Lib.hid (fun j hj => ?_)⟩
            by_cases e : j = k
            · subst e; exact Hq.out
            · exact hno.out j (by omega)
          case measure => simp [intOf]; omega
      · go_wp2
        go_ret
        have e : k = n := by omega
        subst e
        refine ⟨ret_int (idxI_none (p := p) (zs := List.range k) (fun z hz => ?_)).symm, hbw⟩
        exact hno.out z (List.mem_range.1 hz)
theorem containsCut_any (a : Option Addr) (n c : Nat) (zs : List Int) (p : Nat → Bool) (g : Nat) (lb : Array Value) (w : World) (eg : ∀ args w, (callFunc g args).run Tryz.prog w = .ok (.enter g args) w)
    (hz : zs.length = n * 4) (hn : n ≤ 1073741824) (hc : CellsAt w a (zs.map (Value.int .i64)))
    (hp : ∀ (k : Nat) (W : World), Below w.heap.size w W → k < n → Calls Tryz.prog g (#[.agg #[.int .i64 (zs.getD (k * 4) 0), .int .i64 (zs.getD (k * 4 + 1) 0), .int .i64 (zs.getD (k * 4 + 2) 0), .int .i64 (zs.getD (k * 4 + 3) 0)]] ++ lb) W fun e W' => e = .returned (.bool (p k)) ∧ Below W.heap.size W W') :
    Calls Tryz.prog 82 #[.slice a n c, .func (.func g) #[] lb] w fun e w' => e = .returned (.bool ((List.range n).any p)) ∧ Below w.heap.size w w' := by
  have hcon := indexCut_any a n c zs p g lb w eg hz hn hc hp
  have hi := idxI_neg p (List.range n)
  have Hi := Lib.hid hi
  clear hi hz hc hp eg
  generalize idxI p (List.range n) = r at hcon Hi
  generalize (List.range n).any p = q at Hi ⊢
  go_enter Tryz.func82, Tryz.ntmps82
  go_wp2_with (go_at_call 115; refine hcon.mono ?_; rintro e w' ⟨rfl, hb'⟩)
  all_goals
    go_ret
    exact ⟨ret_bool Hi.out, hb'⟩

/-! ### A row without other letters -/
theorem cut_qual (b : UInt8) : [97, 98, 99, 120].contains b = decide (0 ≤ qualU b) := by
  unfold qualU
  by_cases h1 : b = 97
  · subst h1; rfl
  by_cases h2 : b = 98
  · subst h2; rfl
  by_cases h3 : b = 99
  · subst h3; rfl
  by_cases h4 : b = 120
  · subst h4; rfl
  have : ([97, 98, 99, 120] : List UInt8).contains b = false := by simp [h1, h2, h3, h4]
  rw [this, if_neg h1, if_neg h2, if_neg h3, if_neg h4]
  rfl
theorem dropWhile_nil {α : Type} (p : α → Bool) (l : List α) : l.dropWhile p = [] ↔ l.all p = true := by
  induction l with
  | nil => simp
  | cons a l ih =>
    by_cases h : p a
    · simp [h, ih]
    · simp [h]
theorem trim_nil (l : List UInt8) : Lib.trimS l [97, 98, 99, 120] = [] ↔ (l.all fun b => decide (0 ≤ qualU b)) = true := by
  have e : ∀ l : List UInt8, (l.all ([97, 98, 99, 120].contains ·)) = l.all fun b => decide (0 ≤ qualU b) := fun l => by
    congr 1
    funext b
    exact cut_qual b
  rw [← e]
  unfold Lib.trimS Lib.trimLeftS Lib.trimRightS
  rw [dropWhile_nil]
  constructor
  · intro h
    have h1 : l.reverse.dropWhile ([97, 98, 99, 120].contains ·) = [] := by
      cases hd : l.reverse.dropWhile ([97, 98, 99, 120].contains ·) with
      | nil => rfl
      | cons a t =>
        exfalso
        have h2 := List.head?_dropWhile_not ([97, 98, 99, 120].contains ·) l.reverse
        rw [hd] at h2
        simp only [List.head?_cons] at h2
        rw [hd] at h
        have h3 := List.all_eq_true.1 h a (by simp)
        rw [h3] at h2
        cases h2
    rw [dropWhile_nil] at h1
    simpa using h1
  · intro h
    have h1 : l.reverse.all ([97, 98, 99, 120].contains ·) = true := by simpa using h
    rw [(dropWhile_nil _ _).2 h1]
    rfl
theorem trim_any (s : ByteArray) (w : World) (hs : s.size ≤ maxLen) : ∃ t : ByteArray, (t.toList.isEmpty = s.data.toList.all fun b => decide (0 ≤ qualU b)) ∧
    Calls Tryz.prog 81 #[.string s, .string ⟨#[97, 98, 99, 120]⟩] w fun e w' => e = .returned (.string t) ∧ Below w.heap.size w w' := by
  have hcon := Any.strings_Trim_laid Tryz.lays160 (by kernel_rfl) s ⟨#[97, 98, 99, 120]⟩ w (by unfold maxLen at hs; omega) (by decide) (ascii_of_all (by decide))
  change Calls Tryz.prog 81 _ _ (fun e w' => e = .returned (.string ⟨(Lib.trimS s.data.toList [97, 98, 99, 120]).toArray⟩) ∧ Below w.heap.size w w') at hcon
  refine ⟨⟨(Lib.trimS s.data.toList [97, 98, 99, 120]).toArray⟩, ?_, hcon⟩
  have e := trim_nil s.data.toList
  rw [Lib.toList_data]
  cases h : (s.data.toList.all fun b => decide (0 ≤ qualU b)) with
  | true => rw [e.2 h]; rfl
  | false =>
    cases h2 : Lib.trimS s.data.toList [97, 98, 99, 120] with
    | nil => rw [e.1 h2] at h; cases h
    | cons a t => rfl
end Go.Proofs.YthemlamdchcicaaGreatDoor
