/-
  Contracts of ValidJoins, both sides. No condition of its own.
-/
import Derived.Test.YtcajpedhfljhdaaJoin
import Derived.Test.YtcajpedhfljhdaaSlices
import Derived.BigQuiet
import Derived.WalkLawsBesides
namespace Go.Proofs.Ytcajpedhfljhdaa
open Go.ChangeShapes Go.WideShapes Go.ChangeAt Go.RowKit Go.Deep Go.Shelf

set_option maxHeartbeats 1600000 in
theorem indexJoin_any (a : Option Addr) (n c : Nat) (zs : List Int) (p : Nat → Bool) (g : Nat) (lb : Array Value) (w : World) (eg : ∀ args w, (callFunc g args).run Try.prog w = .ok (.enter g args) w)
    (hz : zs.length = n * 4) (hn : n ≤ 1073741824) (hc : CellsAt w a (zs.map (Value.int .i64)))
    (hp : ∀ (k : Nat) (W : World), Below w.heap.size w W → k < n → Calls Try.prog g (#[.agg #[.int .i64 (zs.getD (k * 4) 0), .int .i64 (zs.getD (k * 4 + 1) 0), .int .i64 (zs.getD (k * 4 + 2) 0), .int .i64 (zs.getD (k * 4 + 3) 0)]] ++ lb) W fun e W' => e = .returned (.bool (p k)) ∧ Below W.heap.size W W') :
    Calls Try.prog 82 #[.slice a n c, .func (.func g) #[] lb] w fun e w' => e = .returned (.int .i64 (idxI p (List.range n))) ∧ Below w.heap.size w w' := by
  by_cases h0 : n = 0
  · subst h0
    clear hz hc hp eg
    go_enter Try.func82, Try.ntmps82
    go_wp2
    refine wp_loop_once ?_
    go_wp2
    go_ret
    exact ⟨rfl, Below.refl _ _⟩
  · obtain ⟨b, off, rfl, hb, hcell⟩ := hc.at_ (by simp; omega)
    have Hc := Lib.hid hcell
    have Hz := Lib.hid hz
    have Hp := Lib.hid hp
    clear hcell hz hp hc
    go_enter Try.func82, Try.ntmps82
    go_wp2
    go_loopw [5, 8] (fun _ i wr => ∃ k : Nat, k ≤ n ∧ i = .int .i64 k ∧ Below w.heap.size w wr ∧ Hid (∀ j, j < k → p j = false)) (fun _ i _ => n - (intOf i).toNat)
    case atStart => exact ⟨0, Nat.zero_le _, rfl, Below.refl _ _, Lib.hid (fun j hj => absurd hj (Nat.not_lt_zero _))⟩
    case round =>
      obtain ⟨k, hk, rfl, hbw, hno⟩ := hrel
      by_cases hlt : k < n
      · have hcall := Hp.out k wr hbw hlt
        obtain ⟨x0, hx0⟩ : ∃ x, x = zs.getD (k * 4) 0 := ⟨_, rfl⟩
        have hc0 : wr.cell? ⟨b, off + k * 4, none⟩ = some (.int .i64 x0) := by
          have h := (hbw.cell (p := ⟨b, off + (k * 4), none⟩) hb).trans (Hc.out (k * 4) (by have := Hz.out; simp; omega))
          rw [show off + (k * 4) = off + k * 4 from by omega] at h
          rw [h, hx0]
          simp [List.getElem?_eq_getElem (show k * 4 < zs.length by have := Hz.out; omega)]
        rw [← hx0] at hcall
        clear hx0
        obtain ⟨x1, hx1⟩ : ∃ x, x = zs.getD (k * 4 + 1) 0 := ⟨_, rfl⟩
        have hc1 : wr.cell? ⟨b, off + k * 4 + 1, none⟩ = some (.int .i64 x1) := by
          have h := (hbw.cell (p := ⟨b, off + (k * 4 + 1), none⟩) hb).trans (Hc.out (k * 4 + 1) (by have := Hz.out; simp; omega))
          rw [show off + (k * 4 + 1) = off + k * 4 + 1 from by omega] at h
          rw [h, hx1]
          simp [List.getElem?_eq_getElem (show k * 4 + 1 < zs.length by have := Hz.out; omega)]
        rw [← hx1] at hcall
        clear hx1
        obtain ⟨x2, hx2⟩ : ∃ x, x = zs.getD (k * 4 + 2) 0 := ⟨_, rfl⟩
        have hc2 : wr.cell? ⟨b, off + k * 4 + 2, none⟩ = some (.int .i64 x2) := by
          have h := (hbw.cell (p := ⟨b, off + (k * 4 + 2), none⟩) hb).trans (Hc.out (k * 4 + 2) (by have := Hz.out; simp; omega))
          rw [show off + (k * 4 + 2) = off + k * 4 + 2 from by omega] at h
          rw [h, hx2]
          simp [List.getElem?_eq_getElem (show k * 4 + 2 < zs.length by have := Hz.out; omega)]
        rw [← hx2] at hcall
        clear hx2
        obtain ⟨x3, hx3⟩ : ∃ x, x = zs.getD (k * 4 + 3) 0 := ⟨_, rfl⟩
        have hc3 : wr.cell? ⟨b, off + k * 4 + 3, none⟩ = some (.int .i64 x3) := by
          have h := (hbw.cell (p := ⟨b, off + (k * 4 + 3), none⟩) hb).trans (Hc.out (k * 4 + 3) (by have := Hz.out; simp; omega))
          rw [show off + (k * 4 + 3) = off + k * 4 + 3 from by omega] at h
          rw [h, hx3]
          simp [List.getElem?_eq_getElem (show k * 4 + 3 < zs.length by have := Hz.out; omega)]
        rw [← hx3] at hcall
        clear hx3
        have Hb := Lib.hid hbw
        clear hbw
        have hlt' : (k : Int) < (n : Int) := by omega
        cases hq : p k with
        | true =>
          rw [hq] at hcall
          have Hq := Lib.hid hq
          clear hq
          go_wp2_with (go_at_fn g; refine hcall.mono ?_; rintro e w' ⟨rfl, hb'⟩)
          go_ret
          exact ⟨ret_int (idxI_hit (p := p) (zs := List.range n) (k := k) (x := k) (by simp [hlt]) Hq.out (fun j y hj hy => by
            have hjn : j < n := by omega
            simp [hjn] at hy
            rw [← hy]; exact hno.out j hj)).symm, Hb.out.trans (hb'.mono Hb.out.size)⟩
        | false =>
          rw [hq] at hcall
          have Hq := Lib.hid hq
          clear hq
          go_wp2_with (go_at_fn g; refine hcall.mono ?_; rintro e w' ⟨rfl, hb'⟩)
          go_roundw
          case rel =>
            refine ⟨k + 1, by omega, by go_num, Hb.out.trans (hb'.mono Hb.out.size), Lib.hid (fun j hj => ?_)⟩
            by_cases e : j = k
            · subst e; exact Hq.out
            · exact hno.out j (by omega)
          case measure => simp [intOf]; omega
      · go_wp2
        go_ret
        have e : k = n := by omega
        subst e
        refine ⟨ret_int (idxI_none (p := p) (zs := List.range k) (fun z hz => ?_)).symm, hbw⟩
        exact hno.out z (List.mem_range.1 hz)
theorem containsJoin_any (a : Option Addr) (n c : Nat) (zs : List Int) (p : Nat → Bool) (g : Nat) (lb : Array Value) (w : World) (eg : ∀ args w, (callFunc g args).run Try.prog w = .ok (.enter g args) w)
    (hz : zs.length = n * 4) (hn : n ≤ 1073741824) (hc : CellsAt w a (zs.map (Value.int .i64)))
    (hp : ∀ (k : Nat) (W : World), Below w.heap.size w W → k < n → Calls Try.prog g (#[.agg #[.int .i64 (zs.getD (k * 4) 0), .int .i64 (zs.getD (k * 4 + 1) 0), .int .i64 (zs.getD (k * 4 + 2) 0), .int .i64 (zs.getD (k * 4 + 3) 0)]] ++ lb) W fun e W' => e = .returned (.bool (p k)) ∧ Below W.heap.size W W') :
    Calls Try.prog 69 #[.slice a n c, .func (.func g) #[] lb] w fun e w' => e = .returned (.bool ((List.range n).any p)) ∧ Below w.heap.size w w' := by
  have hcon := indexJoin_any a n c zs p g lb w eg hz hn hc hp
  have hi := idxI_neg p (List.range n)
  have Hi := Lib.hid hi
  clear hi hz hc hp eg
  generalize idxI p (List.range n) = r at hcon Hi
  generalize (List.range n).any p = q at Hi ⊢
  go_enter Try.func69, Try.ntmps69
  go_wp2_with (go_at_call 82; refine hcon.mono ?_; rintro e w' ⟨rfl, hb'⟩)
  all_goals
    go_ret
    exact ⟨ret_bool Hi.out, hb'⟩


/-- The join number k is valid. -/
def joinAt (zs : List Int) (k : Nat) : Bool := joinB (zs.getD (k * 4) 0) (zs.getD (k * 4 + 1) 0) (zs.getD (k * 4 + 2) 0) (zs.getD (k * 4 + 3) 0)
def joinsB (zs : List Int) (n : Nat) : Bool := decide (∀ k, k < n → joinAt zs k = true) && decide (n ≤ 20)

theorem joinsB_bad {zs : List Int} {n k : Nat} {r : Bool} (hr : joinsB zs n = r) (hk : k < n) (h : joinAt zs k = false) : r = false := by
  rw [← hr, joinsB]
  have : ¬ (∀ k, k < n → joinAt zs k = true) := fun hall => by rw [hall k hk] at h; cases h
  simp [this]
theorem joinsB_end {zs : List Int} {n k : Nat} {r : Bool} (hr : joinsB zs n = r) (hk : n ≤ k) (h : ∀ j, j < k → joinAt zs j = true) : decide ((n : Int) ≤ 20) = r := by
  rw [← hr, joinsB]
  have e : decide (∀ k, k < n → joinAt zs k = true) = true := decide_eq_true fun j hj => h j (by omega)
  rw [e, Bool.true_and]
  exact decide_eq_decide.2 (by omega)
theorem joinsB_more {zs : List Int} {k : Nat} (h : ∀ j, j < k → joinAt zs j = true) (hk : joinAt zs k = true) : ∀ j, j < k + 1 → joinAt zs j = true := fun j hj => by
  by_cases e : j = k
  · subst e; exact hk
  · exact h j (by omega)
theorem joinsB_any {zs : List Int} {n : Nat} (h : n ≤ 20) : (!(List.range n).any fun k => !joinAt zs k) = joinsB zs n := by
  rw [joinsB, decide_eq_true h, Bool.and_true, Bool.eq_iff_iff]
  simp

theorem joinsClosure (a b j t : Int) (w : World) : Calls Try.prog 70 (#[.agg #[.int .i64 a, .int .i64 b, .int .i64 j, .int .i64 t]] ++ #[]) w fun e w' => e = .returned (.bool (!joinB a b j t)) ∧ Below w.heap.size w w' := by
  go_enter Try.func70, Try.ntmps70
  go_wp2_with (go_at_call 66; refine (validJoin_any _ _ _ _ _).mono ?_; rintro e w1 ⟨rfl, rfl⟩)
  go_ret
  exact ⟨rfl, (by repeat (first | exact Below.refl _ _ | assumption | refine Below.drew ?_ | refine below_drewN ?_ _ | refine Below.alloc ?_ (by simp; try omega) _ | refine Below.setCell ?_ (by simp; try omega) _))⟩

theorem implJoinsOk (a : Option Addr) (n c : Nat) (zs : List Int) (w : World) (hz : zs.length = n * 4) (hn : n ≤ 1073741824) (ha : CellsAt w a (zs.map (Value.int .i64))) :
    Calls Try.prog 31 #[.slice a n c] w fun e w' => e = .returned (.bool (joinsB zs n)) ∧ Below w.heap.size w w' := by
  by_cases h20 : n ≤ 20
  · have eg : ∀ args w, (callFunc 70 args).run Try.prog w = .ok (.enter 70 args) w := enters_of Try.func70 (by kernel_rfl) rfl
    have hcon := containsJoin_any a n c zs (fun k => !joinAt zs k) 70 #[] w eg hz hn ha (fun k W _ _ => joinsClosure _ _ _ _ W)
    have he := joinsB_any (zs := zs) h20
    rw [← he]
    clear he hz ha eg
    generalize (List.range n).any (fun k => !joinAt zs k) = q at hcon ⊢
    go_enter Try.func31, Try.ntmps31
    go_wp2_with (go_at_call 69; refine hcon.mono ?_; rintro e w' ⟨rfl, hb'⟩)
    go_ret
    exact ⟨rfl, hb'⟩
  · have he : joinsB zs n = false := by simp [joinsB, h20]
    rw [he]
    clear he hz ha
    go_enter Try.func31, Try.ntmps31
    go_wp2
    go_ret
    exact ⟨rfl, Below.refl _ _⟩

set_option maxRecDepth 100000 in
set_option maxHeartbeats 1600000 in
theorem specJoinsOk (a : Option Addr) (n c : Nat) (zs : List Int) (w : World) (hz : zs.length = n * 4) (hn : n ≤ 1073741824) (ha : CellsAt w a (zs.map (Value.int .i64))) :
    Calls Try.prog 68 #[.slice a n c] w fun e w' => e = .returned (.bool (joinsB zs n)) ∧ Below w.heap.size w w' := by
  obtain ⟨r, hr⟩ : ∃ r, joinsB zs n = r := ⟨_, rfl⟩
  rw [hr]
  have HR := Lib.hid hr
  clear hr
  by_cases h0 : n = 0
  · subst h0
    clear hz ha
    go_enter Try.func68, Try.ntmps68
    go_wp2
    refine wp_loop_once ?_
    go_wp2
    go_ret
    exact ⟨ret_bool (by rw [← joinsB_end HR.out (Nat.le_refl _) (fun j hj => absurd hj (by omega))]; simp), Below.refl _ _⟩
  · obtain ⟨b, o, rfl, hb, hc⟩ := ha.at_ (by simp; omega)
    have Hz := Lib.hid hz
    have H1 := Lib.hid hc
    clear hz hc ha
    go_enter Try.func68, Try.ntmps68
    go_wp2
    go_loopw [3] (fun i wr => ∃ k : Nat, k ≤ n ∧ i = .int .i64 k ∧ Hid (∀ j, j < k → joinAt zs j = true) ∧ Below w.heap.size w wr) (fun i _ => n - (intOf i).toNat)
    case atStart => exact ⟨0, Nat.zero_le _, rfl, Lib.hid (fun j hj => absurd hj (by omega)), Below.refl _ _⟩
    case round =>
      obtain ⟨k, hk, rfl, hall, hbw⟩ := hrel
      by_cases hlt : k < n
      · have hcell : ∀ j, j < n * 4 → wr.cell? ⟨b, o + j, none⟩ = some (.int .i64 (zs.getD j 0)) := fun j hj => by
          rw [(hbw.cell (p := ⟨b, o + j, none⟩) hb).trans (H1.out j (by have := Hz.out; simp; omega))]
          simp [List.getElem?_eq_getElem (show j < zs.length by rw [Hz.out]; exact hj)]
        have hone := l19One_any b (o + k * 4) _ _ _ _ wr (hcell (k * 4) (by omega)) (by rw [Nat.add_assoc]; exact hcell (k * 4 + 1) (by omega)) (by rw [Nat.add_assoc]; exact hcell (k * 4 + 2) (by omega)) (by rw [Nat.add_assoc]; exact hcell (k * 4 + 3) (by omega))
        have Hone := Lib.hid hone
        have Hb := Lib.hid (Bel.of hbw)
        clear hbw hcell hone
        have hlt' : (k : Int) < (n : Int) := by omega
        cases h1 : joinAt zs k with
        | false =>
          obtain rfl := joinsB_bad HR.out hlt h1
          have hone : Calls Try.prog 64 #[.pointer (some ⟨b, o + k * 4, none⟩)] wr fun e w' => e = .returned (.bool false) ∧ ∃ q, wr.drewN q = w' := by
            have h := Hone.out
            rw [show joinB (zs.getD (k * 4) 0) (zs.getD (k * 4 + 1) 0) (zs.getD (k * 4 + 2) 0) (zs.getD (k * 4 + 3) 0) = false from h1] at h
            exact h
          clear h1 Hone
          go_wp2_with (go_at_call 64; refine hone.mono ?_; rintro e w1 ⟨rfl, q, rfl⟩)
          go_ret
          exact ⟨rfl, (Hb.out.drewN _).1⟩
        | true =>
          have Hk := Lib.hid h1
          have hone : Calls Try.prog 64 #[.pointer (some ⟨b, o + k * 4, none⟩)] wr fun e w' => e = .returned (.bool true) ∧ ∃ q, wr.drewN q = w' := by
            have h := Hone.out
            rw [show joinB (zs.getD (k * 4) 0) (zs.getD (k * 4 + 1) 0) (zs.getD (k * 4 + 2) 0) (zs.getD (k * 4 + 3) 0) = true from h1] at h
            exact h
          clear h1 Hone
          go_wp2_with (go_at_call 64; refine hone.mono ?_; rintro e w1 ⟨rfl, q, rfl⟩)
          go_roundw
          case rel => exact ⟨k + 1, by omega, by go_num, Lib.hid (joinsB_more hall.out Hk.out), (Hb.out.drewN _).1⟩
          case measure => simp [intOf]; omega
      · go_wp2
        go_ret
        exact ⟨ret_bool (joinsB_end HR.out (by omega) hall.out), hbw⟩
end Go.Proofs.Ytcajpedhfljhdaa
