/-
  Contracts of the draw of spools and of the law's sums and searches. No condition of its own.
-/
import Derived.Test.YtoomkeicfdmdoaaSpoolsP
import Derived.Test.YtoomkeicfdmdoaaSrc
namespace Go.Proofs.Ytoomkeicfdmdoaa
open Go.ChangeShapes Go.WideShapes Go.ChangeAt Go.RowKit Go.Deep Go.Shelf

/-- Spools and needs that were drawn. -/
def SpoolsEnd (w : World) (e : Ending) (w' : World) : Prop :=
  ∃ g n c g1 m d zs ys, e = .returned (.tuple #[.slice (some ⟨g, 0, none⟩) n c, .slice (some ⟨g1, 0, none⟩) m d]) ∧ zs.length = n ∧ ys.length = m ∧ n ≤ 6 ∧ m ≤ 8 ∧ (∀ z ∈ zs, 0 ≤ z ∧ z ≤ 1000000) ∧ (∀ z ∈ ys, 1 ≤ z ∧ z ≤ 1000000)
    ∧ CellsAt w' (some ⟨g, 0, none⟩) (ints zs) ∧ CellsAt w' (some ⟨g1, 0, none⟩) (ints ys) ∧ Below w.heap.size w w'
theorem mem_snoc {zs : List Int} {lo hi x : Int} (h : ∀ z ∈ zs, lo ≤ z ∧ z ≤ hi) (h0 : lo ≤ x) (h1 : x ≤ hi) : ∀ z ∈ zs ++ [x], lo ≤ z ∧ z ≤ hi := by
  intro z hz
  rcases List.mem_append.1 hz with hz | hz
  · exact h z hz
  · simp at hz; omega
theorem grow_ne {W : World} {g1 g5 n c gN p : Nat} (hat : (Value.slice (some ⟨g1, 0, none⟩) n c).ownBlock = some g5 ∨ W.heap.size ≤ g5) (h1 : p < g1) (h2 : g1 ≠ gN) (h3 : p < W.heap.size) (h4 : gN < W.heap.size) : p < g5 ∧ g5 ≠ gN := by
  rcases hat with h | h
  · have : g1 = g5 := by simpa [Value.ownBlock] using h
    omega
  · omega
set_option maxRecDepth 100000 in
set_option maxHeartbeats 6400000 in
theorem a2Spools_any (w : World) (nc cc : Nat) (ac : Option Addr) (hc : CodeAt w ac nc) : Calls Try.prog 24 #[.slice ac nc cc] w (SpoolsEnd w) := by
  have HC := Lib.hid hc
  clear hc
  go_enter Try.func24, Try.ntmps24
  go_wp2_with fail
  refine (l00From_any w w.heap.size ac nc cc (Nat.le_refl _)).mono ?_
  rintro e w1 ⟨rfl, hs1, hb1⟩
  have hp2 := hs1.base.2
  have HS1 := Lib.hid ((hs1.alloc (.cells #[] 2)).alloc (.cells #[] 2))
  have HB1 := Lib.hid (((Bel.of hb1).alloc (.cells #[] 2)).alloc (.cells #[] 2))
  have HO1 := Lib.hid ((own_lit0 w1 w1.heap.size w.heap.size 2 1 rfl hb1.size).alloc (.cells #[] 2))
  have HO2 := Lib.hid (own_lit0 (w1.alloc (.cells #[] 2)) (w1.heap.size + 1) w.heap.size 2 1 (by simp) (by have := hb1.size; simp; omega))
  obtain ⟨gN, hgN⟩ : ∃ q, q = w1.heap.size + 1 := ⟨_, rfl⟩
  rw [← hgN] at HO2
  have hpN : w.heap.size < gN := by omega
  clear hs1 hb1
  go_wp2_with fail
  refine (pick_any w _ w.heap.size nc cc 0 ac 5 HC.out HB1.out HS1.out (by omega) (by omega)).mono ?_
  rintro e w2 ⟨r, rfl, r1, r2, hs2, hg2⟩
  have HS2 := Lib.hid hs2
  have HB2 := Lib.hid (HB1.out.grown hg2 (fun k h => by cases h; exact Nat.le_refl _))
  have HZ2 := Lib.hid (own_drawn HO1.out hg2 (by simp [Value.ownBlock]; omega))
  have HY2 := Lib.hid (own_drawn HO2.out hg2 (by simp [Value.ownBlock]; omega))
  obtain ⟨K0, hK0⟩ : ∃ k : Nat, 1 + r = (k : Int) := ⟨(1 + r).toNat, by omega⟩
  have hK5 : K0 ≤ 5 := by omega
  have hgZ : w1.heap.size ≠ gN := by omega
  have HgN := Lib.hid hgN
  clear hs2 hg2 hgN
  go_wp2_with fail
  try rw [hK0]
  rw [← HgN.out]
  clear hK0 r1 r2
  go_loopw [5, 7] (fun v u wr => ∃ K : Nat, K ≤ 5 ∧ u = .int .i64 K ∧ ∃ (g1 co : Nat) (zs : List Int), v = .slice (some ⟨g1, 0, none⟩) zs.length co ∧ zs.length + K ≤ 5 ∧ w.heap.size < g1 ∧ g1 ≠ gN ∧ Hid (∀ z ∈ zs, 0 ≤ z ∧ z ≤ 1000000) ∧ Hid (SrcAt wr w.heap.size w.heap.size ac nc cc (2 + 2 * zs.length)) ∧ Hid (wr.ownsRow w.heap.size 2 1 (.slice (some ⟨g1, 0, none⟩) zs.length co) zs.length (ints zs)) ∧ Hid (wr.ownsRow w.heap.size 2 1 (.slice (some ⟨gN, 0, none⟩) 0 0) 0 (ints [])) ∧ Hid (Bel w.heap.size w wr)) (fun _ u _ => (intOf u).toNat)
  case atStart => exact ⟨K0, hK5, rfl, _, _, [], rfl, by simpa using hK5, hp2, hgZ, Lib.hid (by simp), HS2, HZ2, HY2, HB2⟩
  case round =>
    obtain ⟨K, hK, rfl, g1, co, zs, rfl, hlen, hpg, hgg, hzs, hsrc, hown, hneed, hbw⟩ := hrel
    by_cases hlt : 0 < K
    · obtain ⟨K, rfl⟩ : ∃ q, K = q + 1 := ⟨K - 1, by omega⟩
      have hlt' : (0 : Int) < (((K + 1 : Nat) : Int)) := by omega
      go_wp2_with fail
      refine (pick_any w wr w.heap.size nc cc (2 + 2 * zs.length) ac 30 HC.out hbw.out hsrc.out (by omega) (by omega)).mono ?_
      rintro e w3 ⟨r, rfl, r1, r2, hs3, hg3⟩
      have HS3 := Lib.hid hs3
      have HB3 := Lib.hid (hbw.out.grown hg3 (fun k h => by cases h; exact Nat.le_refl _))
      have HO3 := Lib.hid (own_drawn hown.out hg3 (by simp [Value.ownBlock]; omega))
      have HY3 := Lib.hid (own_drawn hneed.out hg3 (by simp [Value.ownBlock]; omega))
      have hNl := (own_block (b := gN) HY3.out rfl).2
      clear hs3 hg3
      go_wp2_with (at_builtin; refine appJ (by rfl) _ _ (by rfl) w.heap.size _ _ _ (by rfl) HO3.out _ 1 w3.heap.size (by simp) (by rfl) (by omega) HB3.out ?_; intro g5 cap5 w5 ho5 hb5 hg5 hat5; have Ho5 := Lib.hid ho5; have Hb5 := Lib.hid hb5; have Hs5 := Lib.hid (HS3.out.grown hg5 (by simp [Value.ownBlock]; omega)); have Hy5 := Lib.hid (own_grown_ne HY3.out hg5 (by simp [Value.ownBlock]; omega)); have Ha5 := Lib.hid (grow_ne hat5 hpg hgg HS3.out.base.2 hNl); clear ho5 hb5 hg5 hat5)
      have hk1 : ((K + 1 : Nat) : Int) - 1 = (K : Int) := by omega
      have ha1 := Ha5.out.1
      have ha2 := Ha5.out.2
      go_roundw
      case rel => exact ⟨K, by omega, by go_num, g5, cap5, zs ++ [50 * r], by simp, by simp; omega, ha1, ha2, Lib.hid (mem_snoc hzs.out (by omega) (by omega)), Lib.hid (Hs5.out.more (by simp; omega)), Lib.hid (by rw [ints, List.map_append]; simpa using Ho5.out), Hy5, Hb5⟩
      case measure => simp [intOf]
    · obtain rfl : K = 0 := by omega
      have hlt' : ¬ (0 : Int) < ((0 : Nat) : Int) := by omega
      go_wp2_with fail
      refine (pick_any w wr w.heap.size nc cc (2 + 2 * zs.length) ac 6 HC.out hbw.out hsrc.out (by omega) (by omega)).mono ?_
      rintro e w3 ⟨r, rfl, r1, r2, hs3, hg3⟩
      have HS3 := Lib.hid hs3
      have HB3 := Lib.hid (hbw.out.grown hg3 (fun k h => by cases h; exact Nat.le_refl _))
      have HO3 := Lib.hid (own_drawn hown.out hg3 (by simp [Value.ownBlock]; omega))
      have HY3 := Lib.hid (own_drawn hneed.out hg3 (by simp [Value.ownBlock]; omega))
      obtain ⟨M0, hM0⟩ : ∃ k : Nat, r = (k : Int) := ⟨r.toNat, by omega⟩
      subst hM0
      have hM5 : M0 ≤ 5 := by omega
      have hg1l := (own_block (b := g1) HO3.out rfl).2
      clear hs3 hg3 r1 r2
      go_wp2_with fail
      go_loopw [6, 8] (fun v u wi => ∃ K : Nat, K ≤ 5 ∧ u = .int .i64 K ∧ ∃ (g2 c2 : Nat) (ys : List Int), v = .slice (some ⟨g2, 0, none⟩) ys.length c2 ∧ ys.length + K ≤ 5 ∧ w.heap.size < g2 ∧ g1 ≠ g2 ∧ Hid (∀ z ∈ ys, 1 ≤ z ∧ z ≤ 1000000) ∧ Hid (SrcAt wi w.heap.size w.heap.size ac nc cc (2 + 2 * zs.length + 2 + 2 * ys.length)) ∧ Hid (wi.ownsRow w.heap.size 2 1 (.slice (some ⟨g2, 0, none⟩) ys.length c2) ys.length (ints ys)) ∧ Hid (wi.ownsRow w.heap.size 2 1 (.slice (some ⟨g1, 0, none⟩) zs.length co) zs.length (ints zs)) ∧ Hid (Bel w.heap.size w wi)) (fun _ u _ => (intOf u).toNat)
      case atStart => exact ⟨M0, hM5, rfl, _, _, [], rfl, by simpa using hM5, hpN, hgg, Lib.hid (by simp), HS3, HY3, HO3, HB3⟩
      case round =>
        obtain ⟨K, hK, rfl, g2, c2, ys, rfl, hlen2, hpg2, hgg2, hys, hsrc2, hown2, hzz, hbw2⟩ := hrel
        by_cases hlt2 : 0 < K
        · obtain ⟨K, rfl⟩ : ∃ q, K = q + 1 := ⟨K - 1, by omega⟩
          have hlt3 : (0 : Int) < (((K + 1 : Nat) : Int)) := by omega
          go_wp2_with fail
          refine (pick_any w _ w.heap.size nc cc (2 + 2 * zs.length + 2 + 2 * ys.length) ac 7 HC.out hbw2.out hsrc2.out (by omega) (by omega)).mono ?_
          rintro e w4 ⟨r, rfl, r1, r2, hs4, hg4⟩
          have HS4 := Lib.hid hs4
          have HB4 := Lib.hid (hbw2.out.grown hg4 (fun k h => by cases h; exact Nat.le_refl _))
          have HO4 := Lib.hid (own_drawn hown2.out hg4 (by simp [Value.ownBlock]; omega))
          have HZ4 := Lib.hid (own_drawn hzz.out hg4 (by simp [Value.ownBlock]; omega))
          have hNl := (own_block (b := g1) HZ4.out rfl).2
          clear hs4 hg4
          go_wp2_with (at_builtin; refine appJ (by rfl) _ _ (by rfl) w.heap.size _ _ _ (by rfl) HO4.out _ 1 w4.heap.size (by simp) (by rfl) (by omega) HB4.out ?_; intro g5 cap5 w5 ho5 hb5 hg5 hat5; have Ho5 := Lib.hid ho5; have Hb5 := Lib.hid hb5; have Hs5 := Lib.hid (HS4.out.grown hg5 (by simp [Value.ownBlock]; omega)); have Hy5 := Lib.hid (own_grown_ne HZ4.out hg5 (by simp [Value.ownBlock]; omega)); have Ha5 := Lib.hid (grow_ne hat5 hpg2 hgg2.symm HS4.out.base.2 hNl); clear ho5 hb5 hg5 hat5)
          have hk1 : ((K + 1 : Nat) : Int) - 1 = (K : Int) := by omega
          have ha1 := Ha5.out.1
          have ha2 := Ha5.out.2.symm
          go_roundw
          case rel => exact ⟨K, by omega, by go_num, g5, cap5, ys ++ [1 + 50 * r], by simp, by simp; omega, ha1, ha2, Lib.hid (mem_snoc hys.out (by omega) (by omega)), Lib.hid (Hs5.out.more (by simp; omega)), Lib.hid (by rw [ints, List.map_append]; simpa using Ho5.out), Hy5, Hb5⟩
          case measure => simp [intOf]
        · obtain rfl : K = 0 := by omega
          have hlt3 : ¬ (0 : Int) < ((0 : Nat) : Int) := by omega
          go_wp2_with fail
          go_ret2
          exact ⟨g1, zs.length, co, g2, ys.length, c2, zs, ys, rfl, rfl, rfl, by omega, by omega, hzs.out, hys.out, CellsAt.of_own hzz.out, CellsAt.of_own hown2.out, hbw2.out.1⟩

/-! ### Sums and searches -/
theorem isum_take {cs : List Int} {i : Nat} {z : Int} (h : i < cs.length) (hz : cs.getD i 0 = z) : isum (cs.take (i + 1)) = isum (cs.take i) + z := by
  induction cs generalizing i with
  | nil => simp at h
  | cons c cs ih =>
    cases i with
    | zero => simp at hz; simp [isum, hz]
    | succ i =>
      have := ih (i := i) (by simpa using h) (by simpa using hz)
      simp only [List.take_succ_cons, isum, this]
      omega
theorem isum_bd {cs : List Int} (h : ∀ z ∈ cs, 0 ≤ z ∧ z ≤ 1000000) (i : Nat) : 0 ≤ isum (cs.take i) ∧ isum (cs.take i) ≤ i * 1000000 := by
  induction cs generalizing i with
  | nil => simp [isum]; omega
  | cons c cs ih =>
    cases i with
    | zero => simp [isum]
    | succ i =>
      have h1 := ih (fun z hz => h z (by simp [hz])) i
      have h2 := h c (by simp)
      simp only [List.take_succ_cons, isum]
      omega
theorem a2Sum_any (w : World) (a : Option Addr) (n c : Nat) (cs : List Int) (hl : cs.length = n) (hn : n ≤ 1000) (h : ∀ z ∈ cs, 0 ≤ z ∧ z ≤ 1000000) (hc : CellsAt w a (cs.map (Value.int .i64))) :
    Calls Try.prog 25 #[.slice a n c] w fun e w' => e = .returned (.int .i64 (isum cs)) ∧ Below w.heap.size w w' := by
  obtain ⟨r, hr⟩ : ∃ r, isum cs = r := ⟨_, rfl⟩
  rw [hr]
  have HR := Lib.hid hr
  have HBd := Lib.hid (isum_bd h)
  have Hl := Lib.hid hl
  have HV := Lib.hid h
  have HA := Lib.hid hc
  clear hr h hl hc
  go_enter Try.func25, Try.ntmps25
  go_wp2
  go_loopw [3, 4] (fun v u wr => ∃ i : Nat, i ≤ n ∧ u = .int .i64 i ∧ ∃ x : Int, v = .int .i64 x ∧ Hid (x = isum (cs.take i)) ∧ Hid (Bel w.heap.size w wr)) (fun _ u _ => n - (intOf u).toNat)
  case atStart => exact ⟨0, Nat.zero_le _, rfl, 0, rfl, Lib.hid rfl, Lib.hid (Bel.refl w)⟩
  case round =>
    obtain ⟨i, hi, rfl, x, rfl, hx, hbw⟩ := hrel
    obtain ⟨x1, x2⟩ := HBd.out i
    rw [← hx.out] at x1 x2
    by_cases hlt : i < n
    · obtain ⟨b, o, rfl, hb, hcc⟩ := HA.out.at_ (by have := Hl.out; simp; omega)
      obtain ⟨z, hz⟩ : ∃ z, cs.getD i 0 = z := ⟨_, rfl⟩
      have hcx := cell_int hb hbw.out.1 hcc (by rw [Hl.out]; exact hlt) hz
      have hzb := HV.out z (by rw [← hz]; simp [List.getElem?_eq_getElem (show i < cs.length by rw [Hl.out]; exact hlt)])
      obtain ⟨z1, z2⟩ := hzb
      have HZ := Lib.hid hz
      have hlt' : (i : Int) < (n : Int) := by omega
      clear hcc hz
      go_wp2
      go_roundw
      case rel => exact ⟨i + 1, by omega, by go_num, _, rfl, Lib.hid (by rw [isum_take (by rw [Hl.out]; exact hlt) HZ.out, hx.out]), hbw⟩
      case measure => simp [intOf]; omega
    · obtain rfl : i = n := by omega
      obtain rfl : x = r := by rw [hx.out, HR.out.symm, List.take_of_length_le (by rw [Hl.out]; omega)]
      go_wp2
      go_ret
      exact ⟨rfl, hbw.out.1⟩
def noneTo (zs : List Int) (x : Int) (k : Nat) : Prop := ∀ j, j < k → zs.getD j 0 ≠ x
theorem none_all {zs : List Int} {x : Int} {k : Nat} (hk : zs.length ≤ k) (h : noneTo zs x k) : decide (x ∈ zs) = false := by
  simp only [decide_eq_false_iff_not]
  intro hx
  obtain ⟨j, hj, e⟩ := List.getElem_of_mem hx
  exact h j (by omega) (by simp [List.getElem?_eq_getElem hj, e])
set_option maxHeartbeats 1600000 in
theorem a2Has_any (a : Option Addr) (n c : Nat) (zs : List Int) (x : Int) (w : World) (hz : zs.length = n) (hn : n ≤ 1073741824) (ha : CellsAt w a (zs.map (Value.int .i64))) :
    Calls Try.prog 26 #[.slice a n c, .int .i64 x] w fun e w' => e = .returned (.bool (decide (x ∈ zs))) ∧ w = w' := by
  obtain ⟨r, hr⟩ : ∃ r, decide (x ∈ zs) = r := ⟨_, rfl⟩
  rw [hr]
  have HR := Lib.hid hr
  have Hz := Lib.hid hz
  have HA := Lib.hid ha
  clear hr hz ha
  go_enter Try.func26, Try.ntmps26
  go_wp2
  go_loop [5] (fun i => ∃ k : Nat, k ≤ n ∧ i = .int .i64 k ∧ Hid (noneTo zs x k)) (fun i => n - (intOf i).toNat)
  case atStart => exact ⟨0, Nat.zero_le _, rfl, Lib.hid (fun j hj => by omega)⟩
  case round =>
    obtain ⟨k, hk, rfl, hno⟩ := hrel
    by_cases hlt : k < n
    · obtain ⟨b, o, rfl, hb, hcc⟩ := HA.out.at_ (by have := Hz.out; simp; omega)
      obtain ⟨y, hy⟩ : ∃ y, zs.getD k 0 = y := ⟨_, rfl⟩
      have k1 := cell_int hb (Below.refl _ _) hcc (by rw [Hz.out]; exact hlt) hy
      have HY := Lib.hid hy
      clear hcc hy
      by_cases hxy : y = x
      · subst hxy
        obtain rfl : r = true := by
          rw [← HR.out, ← HY.out]
          simp [List.getElem?_eq_getElem (show k < zs.length by rw [Hz.out]; exact hlt)]
        have gg : (y == y) = true := by simp
        go_wp2
        go_ret
        exact ⟨rfl, rfl⟩
      · have gg : (y == x) = false := by simpa using hxy
        have HN := Lib.hid (show noneTo zs x (k + 1) from fun j hj => by
          by_cases e : j = k
          · subst e; rw [HY.out]; exact hxy
          · exact hno.out j (by omega))
        clear hxy
        go_wp2
        go_round
        case rel => exact ⟨k + 1, by omega, by go_num, HN⟩
        case measure => simp [intOf]; omega
    · obtain rfl : r = false := by rw [← HR.out]; exact none_all (by rw [Hz.out]; omega) hno.out
      go_wp2
      go_ret
      exact ⟨rfl, rfl⟩
end Go.Proofs.Ytoomkeicfdmdoaa
