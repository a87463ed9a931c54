/-
  Contracts of the program's BestRows and LeastHeight. No condition of its own.
-/
import Derived.Test.YtoomkeicfdmdoaaNestC
namespace Go.Proofs.Ytoomkeicfdmdoaa
open Go.ChangeShapes Go.WideShapes Go.ChangeAt Go.RowKit Go.Deep Go.Shelf

/-- What the program's search hands over. -/
def BestEndI (w : World) (zs : List Int) (roll : Int) (e : Ending) (w' : World) : Prop :=
  ∃ (n c : Nat) (a : Option Addr), e = .returned (.tuple #[.slice a n c, .int .i64 (nest0 zs roll).2]) ∧ n ≤ 9 ∧ (nest0 zs roll).1.length = n ∧ w'.ownsRow w.heap.size 2 1 (.slice a n c) n (nints (nest0 zs roll).1) ∧ Below w.heap.size w w'

set_option maxRecDepth 100000 in
set_option maxHeartbeats 6400000 in
theorem bestRowsI_any (w : World) (a : Option Addr) (n c : Nat) (zs : List Int) (roll : Int) (hl : zs.length = n * 2) (ha : CellsAt w a (zs.map (Value.int .i64))) (hok : blocksB zs roll n = true) :
    Calls Try.prog 65 #[.slice a n c, .int .i64 roll] w (BestEndI w zs roll) := by
  obtain ⟨⟨r0, r1⟩, n9, hall⟩ := blocksB_parts hok
  have hzb := blocks_between hl r1 hall
  have hlen := nest0_len (roll := roll) hl n9
  have HI := Lib.hid (fun p gp gw gh cp cw ch W hB hM => nestFrom_any w p gp gw gh n cp cw ch c a zs roll hl n9 ha hzb r0 r1 n 0 0 0 0 0 [] [] (List.replicate n 0) [] (-1) W rfl rfl (by omega) rfl rfl (by omega) between_nil between_nil (by simp) (by omega) (by omega) (by omega) (by omega) hB hM)
  obtain ⟨⟨rb, rl⟩, hr⟩ : ∃ r, nest0 zs roll = r := ⟨_, rfl⟩
  rw [hr] at hlen
  have HR := Lib.hid hr
  have hmk := run_make_row' (P := Try.prog) 22 2 (.int .i64 0) 8 Try.underlying22 infoI rfl .i64 .i64 n (by omega) (by omega)
  have hmk9 : ∀ W : World, (Instr.makeSlice 22 (.int .i64 9) (.int .i64 9)).run Try.prog W = .ok (.slice (some ⟨W.heap.size, 0, none⟩) 9 9) (W.alloc (.cells (madeCells #[Value.int .i64 0] 9) 2)) := run_make_row' (P := Try.prog) 22 2 (.int .i64 0) 8 Try.underlying22 infoI rfl .i64 .i64 9 (by omega) (by omega)
  clear hr hl ha hok hall hzb
  go_enter Try.func65, Try.ntmps65
  go_upto_region 1 with fail
  go_cut [6] (fun t6 W => ∃ (p gp gw gh : Nat), t6 = .pointer (some ⟨p, 0, none⟩) ∧ Hid (NestMem W w.heap.size p gp gw gh (.slice a n c) roll n n 9 9 (List.replicate n 0) (pad9 []) (pad9 []) [] (-1)) ∧ Hid (Bel w.heap.size w W))
  case first =>
    go_region_held3 (fun _ => True) (first | trivial | go_keep) (fail)
    all_goals (go_wp2_with fail; go_meet)
    all_goals
      rw [pad9_nil]
      apply Exists.intro
      apply Exists.intro
      apply Exists.intro
      apply Exists.intro
      refine ⟨rfl, Lib.hid ⟨.slice none 0 0, 0, ?_, ?_, ?_, ?_, nown_nils _ _ _ _, (by intro b e; cases e), ?_⟩, Lib.hid ?_⟩
      · (repeat (first | ((with_reducible refine nown_made _ _ _ _ (by omega) ?_ ?_); (· (first | (with_reducible rfl) | (simp; done))); (· (first | omega | (simp; done) | (simp; omega)))) | ((with_reducible refine own_box7 _ _ _ _ _ _ _ _ _ _ _ ?_ ?_); (· (first | (with_reducible rfl) | (simp; done))); (· (first | omega | (simp; done) | (simp; omega)))) | (with_reducible refine World.ownsRow.drew ?_) | (with_reducible refine World.ownsRow.alloc ?_ _)))
      · (repeat (first | ((with_reducible refine nown_made _ _ _ _ (by omega) ?_ ?_); (· (first | (with_reducible rfl) | (simp; done))); (· (first | omega | (simp; done) | (simp; omega)))) | ((with_reducible refine own_box7 _ _ _ _ _ _ _ _ _ _ _ ?_ ?_); (· (first | (with_reducible rfl) | (simp; done))); (· (first | omega | (simp; done) | (simp; omega)))) | (with_reducible refine World.ownsRow.drew ?_) | (with_reducible refine World.ownsRow.alloc ?_ _)))
      · (repeat (first | ((with_reducible refine nown_made _ _ _ _ (by omega) ?_ ?_); (· (first | (with_reducible rfl) | (simp; done))); (· (first | omega | (simp; done) | (simp; omega)))) | ((with_reducible refine own_box7 _ _ _ _ _ _ _ _ _ _ _ ?_ ?_); (· (first | (with_reducible rfl) | (simp; done))); (· (first | omega | (simp; done) | (simp; omega)))) | (with_reducible refine World.ownsRow.drew ?_) | (with_reducible refine World.ownsRow.alloc ?_ _)))
      · (repeat (first | ((with_reducible refine nown_made _ _ _ _ (by omega) ?_ ?_); (· (first | (with_reducible rfl) | (simp; done))); (· (first | omega | (simp; done) | (simp; omega)))) | ((with_reducible refine own_box7 _ _ _ _ _ _ _ _ _ _ _ ?_ ?_); (· (first | (with_reducible rfl) | (simp; done))); (· (first | omega | (simp; done) | (simp; omega)))) | (with_reducible refine World.ownsRow.drew ?_) | (with_reducible refine World.ownsRow.alloc ?_ _)))
      · exact ⟨by omega, by omega, by omega, by omega, by omega, by omega⟩
      · repeat (first | (with_reducible exact Bel.refl _) | (with_reducible refine Bel.drew ?_) | (with_reducible refine Bel.alloc ?_ _))
  case rest =>
    obtain ⟨p, gp, gw, gh, rfl, hM, hB⟩ := hcut
    have hw := HI.out p gp gw gh n 9 9 wc hB.out hM.out
    rw [Nat.zero_mul, List.drop_zero, List.take_zero, show nestTo roll zs [] [] [] 0 ([], -1) = (rb, rl) from HR.out] at hw
    have HW := Lib.hid hw
    clear hw hmk hmk9
    go_wp2_with fail
    refine HW.out.mono ?_
    rintro e w1 ⟨rfl, hb1, _, plan1, _, _, hm1⟩
    obtain ⟨bv, nb, k1, k2, k3, k4, k5, _⟩ := hm1
    obtain ⟨ab, cb, rfl⟩ := own_cap k5
    have c5 : w1.cell? ⟨p, 5, none⟩ = some (.slice ab nb cb) := by rw [k1.cellAt 5 (by omega)]; rfl
    have c6 : w1.cell? ⟨p, 6, none⟩ = some (.int .i64 rl) := by rw [k1.cellAt 6 (by omega)]; rfl
    have hnb := k5.1
    simp at hnb
    have HE := Lib.hid (fun q => show BestEndI w zs roll (.returned (.tuple #[.slice ab nb cb, .int .i64 rl])) (w1.drewN q) from ⟨nb, cb, ab, by rw [HR.out], by rw [← hnb]; exact hlen, by rw [HR.out]; exact hnb, by rw [HR.out]; exact k5, (hb1.drewN _).1⟩)
    clear k1 k2 k3 k4 k5 hb1 hnb
    go_wp2_with fail
    go_big_quiet (fail)
    go_wp2_with fail
    go_ret2
    exact HE.out _

set_option maxRecDepth 100000 in
set_option maxHeartbeats 3200000 in
theorem impl_BestRows (w : World) (a : Option Addr) (n c : Nat) (zs : List Int) (hl : zs.length = n * 2) (hn : n ≤ 1048576) (hc : CellsAt w a (zs.map (Value.int .i64))) (_ : ∀ z ∈ zs, (Lit.int .i64 z).wf = true) (roll : Int) (_ : (Lit.int .i64 roll).wf = true) :
    Calls Try.prog 33 #[.slice a n c, .int .i64 roll] w (RowEnd w 2 1 (nestL zs roll n) (nestC zs roll n)) := by
  have h1 := implBlocksOk a n c zs roll w hl (by omega) hc
  cases hok : blocksB zs roll n with
  | false =>
    rw [show nestL zs roll n = [] by simp [nestL, hok], show nestC zs roll n = 1 by simp [nestC, hok]]
    rw [hok] at h1
    clear hok hl hc
    go_enter Try.func33, Try.ntmps33
    go_wp2_with (go_at_call 44; refine h1.mono ?_; rintro e w1 ⟨rfl, hb1⟩)
    go_ret2
    exact nrowEnd_fail hb1
  | true =>
    rw [show nestL zs roll n = (nest0 zs roll).1 by simp [nestL, hok], show nestC zs roll n = 0 by simp [nestC, hok]]
    have H2 := Lib.hid (fun W (e : Below w.heap.size w W) => bestRowsI_any W a n c zs roll hl (hc.below e) hok)
    rw [hok] at h1
    have H1 := Lib.hid h1
    clear hok hl hc h1
    go_enter Try.func33, Try.ntmps33
    go_wp2_with fail
    refine H1.out.mono ?_
    rintro e w1 ⟨rfl, hb1⟩
    have HB1 := Lib.hid hb1
    clear hb1
    go_wp2_with fail
    refine (H2.out w1 HB1.out).mono ?_
    rintro e w2 ⟨nb, cb, ab, rfl, hn9, hlen, hown, hb2⟩
    have HE := Lib.hid (show RowEnd w 2 1 (nest0 zs roll).1 0 (.returned (.tuple #[.slice ab nb cb, .int .i64 0])) w2 from ⟨ab, nb, cb, rfl, by omega, by omega, own_base hown HB1.out.size, HB1.out.trans (hb2.mono HB1.out.size)⟩)
    clear hlen hown hb2
    go_wp2_with fail
    go_ret2
    exact HE.out
set_option maxRecDepth 100000 in
set_option maxHeartbeats 3200000 in
theorem impl_LeastHeight (w : World) (a : Option Addr) (n c : Nat) (zs : List Int) (hl : zs.length = n * 2) (hn : n ≤ 1048576) (hc : CellsAt w a (zs.map (Value.int .i64))) (_ : ∀ z ∈ zs, (Lit.int .i64 z).wf = true) (roll : Int) (_ : (Lit.int .i64 roll).wf = true) :
    Calls Try.prog 30 #[.slice a n c, .int .i64 roll] w fun e w' => e = .returned (.tuple #[.int .i64 (nestH zs roll n), .int .i64 (nestC zs roll n)]) ∧ Below w.heap.size w w' := by
  have h1 := implBlocksOk a n c zs roll w hl (by omega) hc
  cases hok : blocksB zs roll n with
  | false =>
    rw [show nestH zs roll n = 0 by simp [nestH, hok], show nestC zs roll n = 1 by simp [nestC, hok]]
    rw [hok] at h1
    clear hok hl hc
    go_enter Try.func30, Try.ntmps30
    go_wp2_with (go_at_call 44; refine h1.mono ?_; rintro e w1 ⟨rfl, hb1⟩)
    go_ret2
    exact ⟨rfl, hb1⟩
  | true =>
    rw [show nestH zs roll n = (nest0 zs roll).2 by simp [nestH, hok], show nestC zs roll n = 0 by simp [nestC, hok]]
    have H2 := Lib.hid (fun W (e : Below w.heap.size w W) => bestRowsI_any W a n c zs roll hl (hc.below e) hok)
    rw [hok] at h1
    have H1 := Lib.hid h1
    clear hok hl hc h1
    go_enter Try.func30, Try.ntmps30
    go_wp2_with fail
    refine H1.out.mono ?_
    rintro e w1 ⟨rfl, hb1⟩
    have HB1 := Lib.hid hb1
    clear hb1
    go_wp2_with fail
    refine (H2.out w1 HB1.out).mono ?_
    rintro e w2 ⟨nb, cb, ab, rfl, hn9, hlen, hown, hb2⟩
    have HE := Lib.hid (HB1.out.trans (hb2.mono HB1.out.size))
    clear hlen hown hb2
    go_wp2_with fail
    go_ret2
    exact ⟨rfl, HE.out⟩
end Go.Proofs.Ytoomkeicfdmdoaa
