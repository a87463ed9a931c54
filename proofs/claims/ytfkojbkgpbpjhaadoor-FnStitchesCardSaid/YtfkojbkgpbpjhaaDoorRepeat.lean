/-
  slices.Repeat of one number: a contract. No condition of its own.
-/
import Derived.Test.YtfkojbkgpbpjhaaDoorApp2
import Derived.Shelf.Bits.Mul64
import Derived.Laws.CopyOwn
import Derived.Deep.RegionHeld3
import Derived.Test.YtfkojbkgpbpjhaaDoorClone
namespace Go.Proofs.YtfkojbkgpbpjhaaDoor
open Go.ChangeShapes Go.WideShapes Go.ChangeAt Go.RowKit Go.Deep Go.Shelf

theorem mul64_one (n : Nat) (hn : n ≤ 1048576) (w : World) : Calls Tryd.prog 127 #[.int .u64 1, .int .u64 (n : Int)] w fun e w' => e = .returned (.tuple #[.int .u64 0, .int .u64 (n : Int)]) ∧ w = w' := by
  have h1 := Mul64.maskN n (by omega)
  have h2 : n % 4294967296 = n := by omega
  rw [h2] at h1
  have h3 : bits .and .u64 (1 : Int) 4294967295 = 1 := by decide
  have h4 : (n : Int) / 4294967296 = 0 := by omega
  go_enter Tryd.func127, Tryd.ntmps127
  go_wp2
  go_ret2
  exact ⟨rfl, rfl⟩

theorem mul_one (n : Nat) (hn : n ≤ 1048576) (w : World) : Calls Tryd.prog 111 #[.int .u64 1, .int .u64 (n : Int)] w fun e w' => e = .returned (.tuple #[.int .u64 0, .int .u64 (n : Int)]) ∧ w = w' := by
  have hn0 : (0 : Int) ≤ (n : Int) := by omega
  go_enter Tryd.func111, Tryd.ntmps111
  go_wp2_with (go_at_call 127; refine (mul64_one n hn _).mono ?_; rintro e w1 ⟨rfl, rfl⟩)
  go_ret2
  exact ⟨rfl, rfl⟩
theorem infoI1 : (Tryd.prog.info? 2).map (fun i => i.size) = some 1 := by kernel_rfl

def repL (V Z : Value) (n m : Nat) : List Value := List.replicate m V ++ List.replicate (n - m) Z
theorem length_repL (V Z : Value) {n m : Nat} (h : m ≤ n) : (repL V Z n m).length = n := by simp [repL]; omega
theorem splice_rep (V Z : Value) {n m k : Nat} (h : m + k ≤ n) : splice (repL V Z n m) m (List.replicate k V) = repL V Z n (m + k) := by
  unfold splice repL
  rw [List.take_left' (by simp), List.length_replicate, List.drop_append, List.drop_of_length_le (by simp), List.length_replicate, List.drop_replicate, List.nil_append, ← List.append_assoc, List.replicate_append_replicate]
  congr 2
  omega
theorem src1 {W : World} {g : Nat} {V : Value} (h : W.cell? ⟨g, 0, none⟩ = some V) : ∀ (j : Nat) u, [V][j]? = some u → W.cell? ((⟨g, 0, none⟩ : Addr).add j) = some u := by
  intro j u hj
  match j, hj with
  | 0, hj => simp at hj; subst hj; simpa [Addr.add] using h
theorem src_rep {W : World} {g n m k E : Nat} {V Z : Value} (hk : k ≤ m) (h : W.heap[g]? = some (.cells (repL V Z n m).toArray E (0, 0))) : ∀ (j : Nat) u, (List.replicate k V)[j]? = some u → W.cell? ((⟨g, 0, none⟩ : Addr).add j) = some u := by
  intro j u hj
  have hjk : j < k := by have := (List.getElem?_eq_some_iff.1 hj).1; simpa using this
  have hu : u = V := by simpa [hjk] using hj.symm
  subst hu
  rw [addr_add, Nat.zero_add, cell_of_row W g j _ E (0, 0) h]
  simp only [List.getElem?_toArray, repL]
  rw [List.getElem?_append_left (by simp; omega), List.getElem?_replicate, if_pos (by omega)]
theorem own_rep {w' : World} {B g n : Nat} {V Z : Value} {E : Nat} (h : w'.heap[g]? = some (.cells (repL V Z n n).toArray E (0, 0))) (hB : B ≤ g) (hn : n ≤ maxLen) : w'.ownsRow B E 1 (.slice (some ⟨g, 0, none⟩) n n) n (List.replicate n V) :=
  ⟨by simp, .inr ⟨g, n, _, rfl, hB, h, Nat.le_refl _, hn, by simp [repL], by simp [repL]⟩⟩

set_option maxRecDepth 100000 in
set_option maxHeartbeats 3200000 in
theorem repeatI_any (g c n : Nat) (v : Int) (w : World) (h1 : 1 ≤ n) (hn : n ≤ 1048576) (hc : w.cell? ⟨g, 0, none⟩ = some (.int .i64 v)) :
    Calls Tryd.prog 84 #[.slice (some ⟨g, 0, none⟩) 1 c, .int .i64 (n : Int)] w (OwnRow w 2 1 n (List.replicate n (.int .i64 v))) := by
  have hmk := run_make_row' (P := Tryd.prog) 50 2 (.int .i64 0) 8 Tryd.underlying50 infoI rfl .i64 .i64 n (by omega) (by omega)
  have hgl : g < w.heap.size := World.block_lt_of_cell? w _ hc
  have Hnew := Lib.hid (show (w.alloc (.cells (madeCells #[Value.int .i64 0] n) 2)).heap[w.heap.size]? = some (.cells (repL (.int .i64 v) (.int .i64 0) n 0).toArray 2 (0, 0)) by
    rw [heap_alloc_new]
    have e : madeCells #[Value.int .i64 0] n = (repL (.int .i64 v) (.int .i64 0) n 0).toArray := by
      apply Array.toList_inj.1
      rw [toList_madeCells_one]
      simp [repL]
    rw [e])
  have Hsrc := Lib.hid (show (w.alloc (.cells (madeCells #[Value.int .i64 0] n) 2)).cell? ⟨g, 0, none⟩ = some (.int .i64 v) from Lib.cell?_alloc_some _ hc)
  have HB0 := Lib.hid (show Below w.heap.size w (w.alloc (.cells (madeCells #[Value.int .i64 0] n) 2)) from (Below.refl _ _).alloc (Nat.le_refl _) _)
  obtain ⟨W2, hrun2, hg2, hb2⟩ : ∃ W2, (Builtin.copy_ #[50, 50] 3 #[.slice (some ⟨w.heap.size, 0, none⟩) n n, .slice (some ⟨g, 0, none⟩) 1 c]).run Tryd.prog (w.alloc (.cells (madeCells #[Value.int .i64 0] n) 2)) = .ok (.int .i64 1) W2 ∧
      W2.heap[w.heap.size]? = some (.cells (repL (.int .i64 v) (.int .i64 0) n 1).toArray 2 (0, 0)) ∧ Below w.heap.size w W2 := by
    have h := run_copy_row (P := Tryd.prog) (w.alloc (.cells (madeCells #[Value.int .i64 0] n) 2)) 50 50 3 2 w.heap.size 0 n n ⟨g, 0, none⟩ 1 c _ 2 [.int .i64 v] Tryd.underlying50 infoI1 Hnew.out (by show 1 = Nat.min 1 n; exact (Nat.min_eq_left h1).symm) (src1 Hsrc.out) (by simp [length_repL]; omega) (by simp [Value.oneCell'])
    refine ⟨_, h, ?_, below_setRow HB0.out (Nat.le_refl _) _⟩
    rw [setRow_heap _ _ _ _ 2 _ Hnew.out]
    have e := splice_rep (.int .i64 v) (.int .i64 0) (n := n) (m := 0) (k := 1) (by omega)
    simpa [splice] using e
  have Hg2 := Lib.hid hg2
  have Hb2 := Lib.hid hb2
  have hn1 : (1 : Int) ≤ (n : Int) := by omega
  clear hc hg2 hb2
  go_enter Tryd.func84, Tryd.ntmps84
  go_wp2_with (go_at_call 111; refine (mul_one n hn _).mono ?_; rintro e w1 ⟨rfl, rfl⟩)
  go_loopw [8] (fun t wr => ∃ m : Nat, 1 ≤ m ∧ m ≤ n ∧ t = .int .i64 m ∧ Hid (wr.heap[w.heap.size]? = some (.cells (repL (.int .i64 v) (.int .i64 0) n m).toArray 2 (0, 0))) ∧ Hid (Below w.heap.size w wr)) (fun t _ => n - (intOf t).toNat)
  case atStart => exact ⟨1, Nat.le_refl _, h1, rfl, Hg2, Hb2⟩
  case round =>
    obtain ⟨m, hm1, hm2, rfl, hrow, hbw⟩ := hrel
    by_cases hlt : m < n
    · have q1 : (0 : Int) ≤ (m : Int) := by omega
      have q2 : (m : Int) < (n : Int) := by omega
      obtain ⟨k, hk⟩ : ∃ k, k = min m (n - m) := ⟨_, rfl⟩
      have hk1 : 1 ≤ k := by omega
      have hk2 : m + k ≤ n := by omega
      have hk3 : k ≤ m := by omega
      obtain ⟨W3, hrun3, hg3, hb3⟩ : ∃ W3, (Builtin.copy_ #[50, 50] 3 #[.slice (some ⟨w.heap.size, m, none⟩) (n - m) (n - m), .slice (some ⟨w.heap.size, 0, none⟩) m n]).run Tryd.prog wr.drew = .ok (.int .i64 (k : Int)) W3 ∧
          W3.heap[w.heap.size]? = some (.cells (repL (.int .i64 v) (.int .i64 0) n (m + k)).toArray 2 (0, 0)) ∧ Below w.heap.size w W3 := by
        have h := run_copy_row (P := Tryd.prog) wr.drew 50 50 3 2 w.heap.size m (n - m) (n - m) ⟨w.heap.size, 0, none⟩ m n _ 2 (List.replicate k (.int .i64 v)) Tryd.underlying50 infoI1 hrow.out (by rw [List.length_replicate]; exact hk) (src_rep (W := wr.drew) hk3 hrow.out) (by simp [length_repL _ _ hm2]; omega) (by intro u hu; rw [List.eq_of_mem_replicate hu]; rfl)
        rw [List.length_replicate] at h
        refine ⟨_, h, ?_, below_setRow hbw.out.drew (Nat.le_refl _) _⟩
        rw [setRow_heap wr.drew _ _ _ 2 _ hrow.out]
        have e := splice_rep (.int .i64 v) (.int .i64 0) hk2
        simpa [splice] using e
      have Hg3 := Lib.hid hg3
      have Hb3 := Lib.hid hb3
      have hwr : IntKind.i64.wrap ((m : Int) + (k : Int)) = (m : Int) + (k : Int) := IntWalk.i64_in _ (by omega)
      clear hg3 hb3 hk
      go_wp2_with fail
      go_region_held3 (fun _ => True) (first | trivial | go_keep) (fail)
      go_wp2
      go_roundw
      case rel => exact ⟨m + k, by omega, hk2, by go_num, Hg3, Hb3⟩
      case measure => simp [intOf]; omega
    · go_wp2
      go_ret
      obtain rfl : m = n := by omega
      exact ⟨some ⟨w.heap.size, 0, none⟩, m, rfl, own_rep hrow.out (Nat.le_refl _) (by unfold maxLen; omega), hbw.out⟩
end Go.Proofs.YtfkojbkgpbpjhaaDoor
