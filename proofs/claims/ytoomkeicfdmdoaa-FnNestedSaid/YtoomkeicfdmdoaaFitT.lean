/-
  Contracts of the program's TallRows: the stable sort by heights. No condition of its own.
-/
import Derived.Test.YtoomkeicfdmdoaaFitO
import Derived.BigRegion
namespace Go.Proofs.Ytoomkeicfdmdoaa
open Go.ChangeShapes Go.WideShapes Go.ChangeAt Go.RowKit Go.Deep Go.Shelf

def cmpI (x y : Int) : Int := if x < y then -1 else if y < x then 1 else 0
theorem compareI_any (x y : Int) (w : World) : Calls Try.prog 75 #[.int .i64 x, .int .i64 y] w fun e w' => e = .returned (.int .i64 (cmpI x y)) ∧ w = w' := by
  by_cases h1 : x < y
  · have e : cmpI x y = -1 := by simp [cmpI, h1]
    rw [e]
    clear e
    go_enter Try.func75, Try.ntmps75
    go_wp2
    go_ret
    exact ⟨rfl, rfl⟩
  · by_cases h2 : y < x
    · have e : cmpI x y = 1 := by simp [cmpI, h1, h2]
      rw [e]
      clear e
      go_enter Try.func75, Try.ntmps75
      go_wp2
      go_ret
      exact ⟨rfl, rfl⟩
    · have e : cmpI x y = 0 := by simp [cmpI, h1, h2]
      rw [e]
      clear e
      go_enter Try.func75, Try.ntmps75
      go_wp2
      go_ret
      exact ⟨rfl, rfl⟩
theorem drewN_add (w : World) (a b : Nat) : (w.drewN a).drewN b = w.drewN (a + b) := by simp [World.drewN, Nat.add_assoc]
theorem quiet_more {P : Program} {f : FuncId} {args : Array Value} {w : World} {n : Nat} {v : Value} (h : Calls P f args (w.drewN n) fun e w' => e = .returned v ∧ ∃ m, w' = (w.drewN n).drewN m) :
    Calls P f args (w.drewN n) fun e w'' => e = .returned v ∧ ∃ m, w'' = w.drewN m := h.mono fun _ _ ⟨he, m, hw⟩ => ⟨he, n + m, by rw [hw, drewN_add]⟩
set_option maxHeartbeats 1600000 in
theorem tallClosure (i j n c p bz oz : Nat) (x y : Int) (W : World) (hi : i < n) (hj : j < n) (hp : W.cell? ⟨p, 0, none⟩ = some (.slice (some ⟨bz, oz, none⟩) n c)) (hx : W.cell? ⟨bz, oz + i * 2 + 1, none⟩ = some (.int .i64 x)) (hy : W.cell? ⟨bz, oz + j * 2 + 1, none⟩ = some (.int .i64 y)) :
    Calls Try.prog 74 (#[.int .i64 (i : Int), .int .i64 (j : Int)] ++ #[.pointer (some ⟨p, 0, none⟩)]) W fun e w' => e = .returned (.int .i64 (cmpI y x)) ∧ ∃ m, w' = W.drewN m := by
  have hi' : (i : Int) < (n : Int) := by omega
  have hj' : (j : Int) < (n : Int) := by omega
  go_enter Try.func74, Try.ntmps74
  go_wp2_with fail
  go_big_quiet ((go_at_call 75; first | exact quiet_left (callsB (compareI_any _ _ _) (by assumption)) | exact quiet_left (compareI_any _ _ _) | exact quiet_add_left (callsB (compareI_any _ _ _) (by assumption)) | exact quiet_add_left (compareI_any _ _ _)))
  go_wp2_with fail
  go_ret
  exact ⟨rfl, _, rfl⟩

/-! ### The sort's lists -/
def srt (T : List Nat) (i j : Nat) (rest : List Nat) : List Nat := T.take j ++ i :: T.drop j ++ rest
theorem srt_len (T : List Nat) (i j : Nat) (rest : List Nat) : (srt T i j rest).length = T.length + 1 + rest.length := by simp [srt]; omega
theorem srt_here {T : List Nat} {i j : Nat} {rest : List Nat} (h : j ≤ T.length) : (srt T i j rest).getD j 0 = i := by
  have e : (T.take j).length = j := by simp; omega
  simp only [srt, List.append_assoc, List.getD_eq_getElem?_getD]
  rw [List.getElem?_append_right (by omega), e, Nat.sub_self]
  simp
theorem srt_left {T : List Nat} {i q : Nat} {rest : List Nat} (h : q + 1 ≤ T.length) : (srt T i (q + 1) rest).getD q 0 = T.getD q 0 := by
  simp only [srt, List.append_assoc, List.getD_eq_getElem?_getD]
  rw [List.getElem?_append_left (by simp; omega), List.getElem?_take, if_pos (by omega)]
theorem srt_swap {T : List Nat} {i q : Nat} {rest : List Nat} (h : q + 1 ≤ T.length) : ((srt T i (q + 1) rest).set (q + 1) (T.getD q 0)).set q i = srt T i q rest := by
  have hq : q < T.length := by omega
  have e : (T.take q).length = q := by simp; omega
  have e1 : T.take (q + 1) = T.take q ++ [T.getD q 0] := by
    rw [List.take_add_one, List.getElem?_eq_getElem hq]
    simp [List.getElem?_eq_getElem hq]
  have e2 : T.drop q = T.getD q 0 :: T.drop (q + 1) := by
    rw [List.drop_eq_getElem_cons hq]
    simp [List.getElem?_eq_getElem hq]
  unfold srt
  rw [e1, e2]
  simp only [List.append_assoc, List.cons_append]
  rw [List.set_append_right _ _ (by omega), e, show q + 1 - q = 1 by omega, List.set_append_right _ _ (by omega), e, Nat.sub_self]
  simp
theorem nats_set (L : List Nat) (k x : Nat) : (nats L).set k (.int .i64 (x : Int)) = nats (L.set k x) := by simp [nats]
theorem own_nat {W : World} {B E g n c k x : Nat} {L : List Nat} (h : W.ownsRow B E 1 (.slice (some ⟨g, 0, none⟩) n c) n (nats L)) (hk : k < L.length) (hx : L.getD k 0 = x) : W.cell? ⟨g, k, none⟩ = some (.int .i64 (x : Int)) := by
  have hl := h.1
  simp only [nats, List.length_map] at hl
  rw [h.cellAt k (by omega)]
  simp only [nats, List.getElem?_map, List.getElem?_eq_getElem hk, Option.map_some]
  rw [← hx]; simp [List.getElem?_eq_getElem hk]
theorem tallPut_len (zs : List Int) (L : List Nat) (i : Nat) : (tallPut zs L i).length = L.length + 1 := by
  have := (tallPut_perm zs L i).length_eq
  simpa using this
theorem tallTo_len (zs : List Int) (n : Nat) : (tallTo zs n).length = n := by simpa using (tallTo_perm zs n).length_eq
theorem tallTo_lt {zs : List Int} {n k : Nat} (hk : k < n) : (tallTo zs n).getD k 0 < n := by
  have hl := tallTo_len zs n
  have h : (tallTo zs n)[k]'(by omega) ∈ tallTo zs n := List.getElem_mem _
  have := (tallTo_perm zs n).mem_iff.1 h
  simp [List.getElem?_eq_getElem (show k < (tallTo zs n).length by omega)]
  simpa using this
theorem drop_range {n i : Nat} (h : i < n) : (List.range n).drop i = i :: (List.range n).drop (i + 1) := by
  rw [List.drop_eq_getElem_cons (show i < (List.range n).length by simpa using h)]
  simp
theorem srt_begin {zs : List Int} {n i : Nat} (h : i < n) : tallTo zs i ++ (List.range n).drop i = srt (tallTo zs i) i i ((List.range n).drop (i + 1)) := by
  have hl := tallTo_len zs i
  rw [drop_range h]
  unfold srt
  rw [List.take_of_length_le (show (tallTo zs i).length ≤ i by omega), List.drop_of_length_le (show (tallTo zs i).length ≤ i by omega)]
  simp
theorem srt_end {zs : List Int} {n i j : Nat} (hk : tallK zs (tallTo zs i) i i = j) : srt (tallTo zs i) i j ((List.range n).drop (i + 1)) = tallTo zs (i + 1) ++ (List.range n).drop (i + 1) := by
  simp only [tallTo, tallPut, srt]
  rw [tallTo_len, hk]
theorem sort_start {zs : List Int} {n : Nat} (h : 1 ≤ n) : List.range n = tallTo zs 1 ++ (List.range n).drop 1 := by
  have e : tallTo zs 1 = [0] := by simp [tallTo, tallPut, tallK]
  have := drop_range (n := n) (i := 0) (by omega)
  rw [e]
  simpa using this

set_option maxRecDepth 100000 in
set_option maxHeartbeats 6400000 in
theorem insertSort_any (w0 w : World) (g cap n c p : Nat) (a : Option Addr) (zs : List Int) (hl : zs.length = n * 2) (n9 : n ≤ 9) (hp : p < w0.heap.size) (hbox : w0.cell? ⟨p, 0, none⟩ = some (.slice a n c)) (ha : CellsAt w0 a (zs.map (Value.int .i64)))
    (hb : Bel w0.heap.size w0 w) (ho : w.ownsRow w0.heap.size 3 1 (.slice (some ⟨g, 0, none⟩) n cap) n (nats (List.range n))) :
    Calls Try.prog 97 #[.slice (some ⟨g, 0, none⟩) n cap, .int .i64 0, .int .i64 (n : Int), .func (.func 74) #[] #[.pointer (some ⟨p, 0, none⟩)]] w
      fun e w' => e = .returned (.tuple #[]) ∧ w'.ownsRow w0.heap.size 3 1 (.slice (some ⟨g, 0, none⟩) n cap) n (nats (tallTo zs n)) ∧ Bel w0.heap.size w0 w' := by
  have eg : ∀ args w, (callFunc 74 args).run Try.prog w = .ok (.enter 74 args) w := enters_of Try.func74 (by kernel_rfl) rfl
  by_cases h0 : n = 0
  · subst h0
    have HO := Lib.hid ho
    have HB := Lib.hid hb
    clear hl ha hbox ho hb eg
    go_enter Try.func97, Try.ntmps97
    go_wp2_with fail
    refine wp_loop_once ?_
    go_wp2_with fail
    go_end0
    exact ⟨rfl, HO.out, HB.out⟩
  · have n1 : 1 ≤ n := by omega
    have HO := Lib.hid ho
    have HB := Lib.hid hb
    have HA := Lib.hid ha
    have Hl := Lib.hid hl
    have HBox := Lib.hid hbox
    have HEg := Lib.hid eg
    clear hl ha hbox ho hb h0 eg
    go_enter Try.func97, Try.ntmps97
    go_wp2_with fail
    go_loopw [8, 9] (fun u _ wr => ∃ i : Nat, 1 ≤ i ∧ i ≤ n ∧ u = .int .i64 i ∧ Hid (wr.ownsRow w0.heap.size 3 1 (.slice (some ⟨g, 0, none⟩) n cap) n (nats (tallTo zs i ++ (List.range n).drop i))) ∧ Hid (Bel w0.heap.size w0 wr)) (fun u _ _ => n - (intOf u).toNat)
    case atStart => exact ⟨1, Nat.le_refl _, n1, by go_num, Lib.hid (by rw [← sort_start n1]; exact HO.out), HB⟩
    case round =>
      obtain ⟨i, hi1, hin, rfl, ho, hbw⟩ := hrel
      by_cases hlt : i < n
      · have hlt' : (i : Int) < (n : Int) := by omega
        have HL := Lib.hid (tallTo_len zs i)
        have HLt := Lib.hid (fun k (h : k < i) => tallTo_lt (zs := zs) h)
        have HStart := Lib.hid (show wr.ownsRow w0.heap.size 3 1 (.slice (some ⟨g, 0, none⟩) n cap) n (nats (srt (tallTo zs i) i i ((List.range n).drop (i + 1)))) by rw [← srt_begin hlt]; exact ho.out)
        have HEnd := Lib.hid (fun j (h : tallK zs (tallTo zs i) i i = j) => srt_end (n := n) h)
        have HRest := Lib.hid (show ((List.range n).drop (i + 1)).length = n - (i + 1) by simp)
        have HStepK := Lib.hid (show ∀ q, tallK zs (tallTo zs i) i (q + 1) = if hOf zs ((tallTo zs i).getD q 0) < hOf zs i then tallK zs (tallTo zs i) i q else q + 1 from fun _ => rfl)
        generalize tallTo zs i = T at HL HLt HStart HEnd HStepK
        obtain ⟨rest, hrest⟩ : ∃ r, (List.range n).drop (i + 1) = r := ⟨_, rfl⟩
        rw [hrest] at HStart HEnd HRest
        have HRe := Lib.hid hrest
        clear hrest
        go_wp2_with fail
        go_loopw [9] (fun v wi => ∃ j : Nat, j ≤ i ∧ v = .int .i64 j ∧ Hid (tallK zs T i i = tallK zs T i j) ∧ Hid (wi.ownsRow w0.heap.size 3 1 (.slice (some ⟨g, 0, none⟩) n cap) n (nats (srt T i j rest))) ∧ Hid (Bel w0.heap.size w0 wi)) (fun v _ => (intOf v).toNat)
        case atStart => exact ⟨i, Nat.le_refl _, rfl, Lib.hid rfl, HStart, hbw⟩
        case round =>
          clear ho hbw HStart
          obtain ⟨j, hji, rfl, hK, ho, hbw⟩ := hrel
          by_cases hj : 0 < j
          · obtain ⟨q, rfl⟩ : ∃ q, j = q + 1 := ⟨j - 1, by omega⟩
            obtain ⟨t, ht⟩ : ∃ t, T.getD q 0 = t := ⟨_, rfl⟩
            have htn : t < n := by have := HLt.out q (by omega); omega
            obtain ⟨bz, oz, rfl, hbz, hcz⟩ := HA.out.at_ (by have := Hl.out; simp; omega)
            have lT := HL.out
            have lS : (srt T i (q + 1) rest).length = n := by rw [srt_len, HRest.out]; omega
            have k1 := own_nat ho.out (k := q + 1) (by omega) (srt_here (by omega))
            have k2 := own_nat ho.out (k := q) (by omega) ((srt_left (by omega)).trans ht)
            have hci := fun W (h : Bel w0.heap.size w0 W) => (show W.cell? ⟨bz, oz + i * 2 + 1, none⟩ = some (.int .i64 (hOf zs i)) from by have h := cell_int hbz h.1 hcz (j := i * 2 + 1) (by rw [Hl.out]; omega) rfl; rwa [← Nat.add_assoc] at h)
            have hct := fun W (h : Bel w0.heap.size w0 W) => (show W.cell? ⟨bz, oz + t * 2 + 1, none⟩ = some (.int .i64 (hOf zs t)) from by have h := cell_int hbz h.1 hcz (j := t * 2 + 1) (by rw [Hl.out]; omega) rfl; rwa [← Nat.add_assoc] at h)
            have hcmp := fun W (h : Bel w0.heap.size w0 W) => tallClosure i t n c p bz oz (hOf zs i) (hOf zs t) W hlt htn ((h.1.cell (p := ⟨p, 0, none⟩) hp).trans HBox.out) (hci W h) (hct W h)
            have hsk := HStepK.out q
            rw [ht] at hsk
            have hcm : cmpI (hOf zs t) (hOf zs i) < 0 ↔ hOf zs t < hOf zs i := by
              unfold cmpI
              split
              · omega
              · split <;> omega
            obtain ⟨cv, hcv⟩ : ∃ v, cmpI (hOf zs t) (hOf zs i) = v := ⟨_, rfl⟩
            rw [hcv] at hcm
            simp only [hcv] at hcmp
            have HCmp := Lib.hid hcmp
            have HT := Lib.hid ht
            have HSk := Lib.hid hsk
            have HCm := Lib.hid hcm
            have HLS := Lib.hid lS
            have hq1 : IntKind.i64.wrap ((q : Int) + 1 - 1) = (q : Int) := by rw [Int.add_sub_cancel]; exact IntWalk.i64_in _ (by omega)
            have hq2 : (q : Int) + 1 < (n : Int) := by omega
            have hq3 : (q : Int) < (n : Int) := by omega
            have hq4 : ((q : Int) + 1).toNat = q + 1 := by omega
            clear hci hct hcmp hsk hcm ht lT lS hcz hcv
            by_cases hlt2 : cv < 0
            · have eg := HEg.out
              have hd : decide (cv < 0) = true := by simpa using hlt2
              have HD := Lib.hid hlt2
              clear hlt2
              go_wp2_with fail
              go_big_quiet (first | (go_at_fn 74; exact quiet_more (HCmp.out _ (hbw.out.drewN _))))
              generalize hw2 : wr.drewN nq = w2
              have HO2 := Lib.hid (show w2.ownsRow w0.heap.size 3 1 (.slice (some ⟨g, 0, none⟩) n cap) n (nats (srt T i (q + 1) rest)) by rw [← hw2]; exact ho.out)
              have HB2 := Lib.hid (show Bel w0.heap.size w0 w2 by rw [← hw2]; exact hbw.out.drewN _)
              clear hw2 k1 k2 eg hd
              have k1 := own_nat HO2.out (k := q + 1) (by rw [HLS.out]; omega) (srt_here (by rw [HL.out]; omega))
              have k2 := own_nat HO2.out (k := q) (by rw [HLS.out]; omega) ((srt_left (by rw [HL.out]; omega)).trans HT.out)
              have f1 := HO2.out.frozenAt (q + 1)
              have f2 := HO2.out.frozenAt q
              have hst1 := HO2.out.stored (q + 1) (.int .i64 (t : Int))
              rw [nats_set] at hst1
              have hst2 := hst1.1.stored q (.int .i64 (i : Int))
              rw [nats_set, ← HT.out, srt_swap (by rw [HL.out]; omega), HT.out] at hst2
              have k3 : (w2.setCell ⟨g, q + 1, none⟩ (.int .i64 (t : Int))).cell? ⟨g, q, none⟩ = some (.int .i64 (t : Int)) := own_nat hst1.1 (k := q) (by rw [List.length_set, HLS.out]; omega) (by
                have h := (srt_left (T := T) (i := i) (rest := rest) (q := q) (by rw [HL.out]; omega)).trans HT.out
                simp only [List.getD_eq_getElem?_getD] at h ⊢
                rw [List.getElem?_set_ne (by omega)]; exact h)
              have HO3 := Lib.hid (show ((w2.setCell ⟨g, q + 1, none⟩ (.int .i64 (t : Int))).setCell ⟨g, q, none⟩ (.int .i64 (i : Int))).drew.ownsRow w0.heap.size 3 1 (.slice (some ⟨g, 0, none⟩) n cap) n (nats (srt T i q rest)) from hst2.1)
              have HB3 := Lib.hid (((HB2.out.grown hst1.2 (fun j hj => (own_block HO2.out hj).1)).grown hst2.2 (fun j hj => (own_block HO2.out hj).1)).drew)
              clear hst1 hst2
              go_wp2_with fail
              go_big_region
              go_wp2_with fail
              go_roundw
              case rel => exact ⟨q, by omega, by go_num, Lib.hid (by rw [hK.out, HSk.out, if_pos (HCm.out.1 HD.out)]), HO3, HB3⟩
              case measure => simp [intOf]
            · have eg := HEg.out
              have hd : decide (cv < 0) = false := by simpa using hlt2
              have HE := Lib.hid (show tallK zs T i i = q + 1 by rw [hK.out, HSk.out, if_neg (fun h => hlt2 (HCm.out.2 h))])
              clear hlt2
              go_wp2_with fail
              go_big_quiet (first | (go_at_fn 74; exact quiet_more (HCmp.out _ (hbw.out.drewN _))))
              go_wp2_with fail
              go_roundw
              case rel => exact ⟨i + 1, by omega, by omega, by go_num, Lib.hid (by rw [HRe.out, ← HEnd.out _ HE.out]; exact ho.out), Lib.hid (hbw.out.drewN _)⟩
              case measure => simp [intOf]; omega
          · obtain rfl : j = 0 := by omega
            have hlt0 : ¬ (0 : Int) < ((0 : Nat) : Int) := by omega
            have HE := Lib.hid (show tallK zs T i i = 0 by rw [hK.out]; rfl)
            go_wp2_with fail
            go_big_region
            go_wp2_with fail
            go_roundw
            case rel => exact ⟨i + 1, by omega, by omega, by go_num, Lib.hid (by rw [HRe.out, ← HEnd.out _ HE.out]; exact ho.out), Lib.hid hbw.out.drew⟩
            case measure => simp [intOf]; omega
      · obtain rfl : i = n := by omega
        have hlt' : ¬ (i : Int) < (i : Int) := by omega
        have HE := Lib.hid (show wr.ownsRow w0.heap.size 3 1 (.slice (some ⟨g, 0, none⟩) i cap) i (nats (tallTo zs i)) by have h := ho.out; rw [List.drop_of_length_le (by simp), List.append_nil] at h; exact h)
        go_wp2_with fail
        go_end0
        exact ⟨rfl, HE.out, hbw.out⟩
set_option maxHeartbeats 1600000 in
theorem stableSort_any (w0 w : World) (g cap n c p : Nat) (a : Option Addr) (zs : List Int) (hl : zs.length = n * 2) (n9 : n ≤ 9) (hp : p < w0.heap.size) (hbox : w0.cell? ⟨p, 0, none⟩ = some (.slice a n c)) (ha : CellsAt w0 a (zs.map (Value.int .i64)))
    (hb : Bel w0.heap.size w0 w) (ho : w.ownsRow w0.heap.size 3 1 (.slice (some ⟨g, 0, none⟩) n cap) n (nats (List.range n))) :
    Calls Try.prog 90 #[.slice (some ⟨g, 0, none⟩) n cap, .int .i64 (n : Int), .func (.func 74) #[] #[.pointer (some ⟨p, 0, none⟩)]] w
      fun e w' => e = .returned (.tuple #[]) ∧ w'.ownsRow w0.heap.size 3 1 (.slice (some ⟨g, 0, none⟩) n cap) n (nats (tallTo zs n)) ∧ Bel w0.heap.size w0 w' := by
  have H := Lib.hid (insertSort_any w0 w g cap n c p a zs hl n9 hp hbox ha hb ho)
  have g1 : ¬ (20 : Int) ≤ (n : Int) := by omega
  have g2 : ¬ (20 : Int) < (n : Int) := by omega
  clear hl ha hbox ho hb
  go_enter Try.func90, Try.ntmps90
  go_wp2_with fail
  refine wp_loop_once ?_
  go_wp2_with fail
  refine H.out.mono ?_
  rintro e w1 ⟨rfl, ho1, hb1⟩
  have H1 := Lib.hid (And.intro ho1 hb1)
  clear ho1 hb1
  go_wp2_with fail
  refine wp_loop_once ?_
  go_wp2_with fail
  go_end0
  exact ⟨rfl, H1.out.1, H1.out.2⟩
theorem sortStable_any (w0 w : World) (g cap n c p : Nat) (a : Option Addr) (zs : List Int) (hl : zs.length = n * 2) (n9 : n ≤ 9) (hp : p < w0.heap.size) (hbox : w0.cell? ⟨p, 0, none⟩ = some (.slice a n c)) (ha : CellsAt w0 a (zs.map (Value.int .i64)))
    (hb : Bel w0.heap.size w0 w) (ho : w.ownsRow w0.heap.size 3 1 (.slice (some ⟨g, 0, none⟩) n cap) n (nats (List.range n))) :
    Calls Try.prog 73 #[.slice (some ⟨g, 0, none⟩) n cap, .func (.func 74) #[] #[.pointer (some ⟨p, 0, none⟩)]] w
      fun e w' => e = .returned (.tuple #[]) ∧ w'.ownsRow w0.heap.size 3 1 (.slice (some ⟨g, 0, none⟩) n cap) n (nats (tallTo zs n)) ∧ Bel w0.heap.size w0 w' := by
  have H := Lib.hid (stableSort_any w0 w g cap n c p a zs hl n9 hp hbox ha hb ho)
  clear hl ha hbox ho hb
  go_enter Try.func73, Try.ntmps73
  go_wp2_with fail
  refine H.out.mono ?_
  rintro e w1 ⟨rfl, ho1, hb1⟩
  have H1 := Lib.hid (And.intro ho1 hb1)
  clear ho1 hb1
  go_wp2_with fail
  go_end0
  exact ⟨rfl, H1.out.1, H1.out.2⟩
set_option maxHeartbeats 3200000 in
theorem impl_TallRows (w : World) (a : Option Addr) (n c : Nat) (zs : List Int) (hl : zs.length = n * 2) (hn : n ≤ 1048576) (hc : CellsAt w a (zs.map (Value.int .i64))) (roll : Int) :
    Calls Try.prog 41 #[.slice a n c, .int .i64 roll] w (RowEnd w 2 1 (tallL zs roll n) (nestC zs roll n)) := by
  obtain ⟨wb, hwb⟩ : ∃ q, w.alloc (.cells #[.slice a n c] 43) = q := ⟨_, rfl⟩
  have hB0 : Bel w.heap.size w wb := by rw [← hwb]; exact (Bel.refl w).alloc _
  have c1 : wb.cell? ⟨w.heap.size, 0, none⟩ = some (.slice a n c) := by rw [← hwb]; simp
  have s1 : w.heap.size < wb.heap.size := by rw [← hwb]; simp
  have hc0 := hc.below hB0.1
  have h1 := implBlocksOk a n c zs roll wb hl (by omega) hc0
  have HW := Lib.hid hwb
  have HB0 := Lib.hid hB0
  cases hok : blocksB zs roll n with
  | false =>
    rw [show tallL zs roll n = [] by simp [tallL, hok], show nestC zs roll n = 1 by simp [nestC, hok]]
    rw [hok] at h1
    have H1 := Lib.hid h1
    clear hok hl hc hc0 h1 hwb hB0
    go_enter Try.func41, Try.ntmps41
    go_wp2_with fail
    rw [HW.out]
    refine H1.out.mono ?_
    rintro e w1 ⟨rfl, hb1⟩
    have HB1 := Lib.hid (HB0.out.step hb1)
    clear hb1
    go_wp2_with fail
    go_ret2
    exact nrowEnd_fail HB1.out.1
  | true =>
    have n9 := (blocksB_parts hok).2.1
    rw [show tallL zs roll n = firstFit zs roll (tallTo zs n) (List.replicate 9 0) (List.replicate n 0) by simp [tallL, hok], show nestC zs roll n = 0 by simp [nestC, hok]]
    have hp := tallTo_perm zs n
    have hlenR := (order_fine hok hl hp).1
    have H2 := Lib.hid (fun W g cap (e : Below wb.heap.size wb W) (ho : CellsAt W (some ⟨g, 0, none⟩) (nats (tallTo zs n))) => firstRowsI_any W a n c zs roll (some ⟨g, 0, none⟩) cap (tallTo zs n) hl (hc0.below e) hok hp ho)
    have H3 := Lib.hid (fun W g cap hb ho => sortStable_any wb W g cap n c w.heap.size a zs hl n9 s1 c1 hc0 hb ho)
    rw [hok] at h1
    have H1 := Lib.hid h1
    generalize firstFit zs roll (tallTo zs n) (List.replicate 9 0) (List.replicate n 0) = R at H2 hlenR ⊢
    have HL := Lib.hid hlenR
    clear hok hl hc hc0 h1 hlenR hwb hB0 hp
    go_enter Try.func41, Try.ntmps41
    go_wp2_with fail
    rw [HW.out]
    refine H1.out.mono ?_
    rintro e w1 ⟨rfl, hb1⟩
    have k1 := (hb1.cell (p := ⟨w.heap.size, 0, none⟩) s1).trans c1
    have t1 := Nat.lt_of_lt_of_le s1 hb1.size
    have HB1 := Lib.hid (Bel.of hb1)
    clear hb1
    go_wp2_with fail
    refine (inOrder_any w1 a n c hn).mono ?_
    rintro e w2 ⟨g, cap, rfl, ho, hb2⟩
    have HO := Lib.hid (own_base ho HB1.out.2)
    have HB2 := Lib.hid (HB1.out.step hb2)
    clear hb2 ho k1 t1
    go_wp2_with fail
    refine (H3.out w2 g cap HB2.out HO.out).mono ?_
    rintro e w3 ⟨rfl, ho3, hb3⟩
    have k3 := (hb3.1.cell (p := ⟨w.heap.size, 0, none⟩) s1).trans c1
    have t3 := Nat.lt_of_lt_of_le s1 hb3.2
    have HB3 := Lib.hid hb3
    have HO3 := Lib.hid (CellsAt.of_own ho3)
    clear hb3 ho3
    go_wp2_with fail
    refine (H2.out w3 g cap HB3.out.1 HO3.out).mono ?_
    rintro e w4 ⟨g4, rfl, ho4, hb4⟩
    have HE := Lib.hid (show RowEnd w 2 1 R 0 (.returned (.tuple #[.slice (some ⟨g4, 0, none⟩) n n, .int .i64 0])) w4 from ⟨_, n, n, rfl, by rw [HL.out]; omega, by omega, own_base ho4 (Nat.le_trans HB0.out.2 HB3.out.2), ((HB0.out.step HB3.out.1).step hb4).1⟩)
    clear ho4 hb4
    go_wp2_with fail
    go_ret2
    exact HE.out
end Go.Proofs.Ytoomkeicfdmdoaa
