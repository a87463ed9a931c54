/-
  The parts of a pattern: they end. No condition of its own.
-/
import Derived.Test.YthemlamdchcicaaGreatDoorGPatH
namespace Go.Proofs.YthemlamdchcicaaGreatDoor
open Go.ChangeShapes Go.WideShapes Go.ChangeAt Go.RowKit Go.Deep Go.Shelf Go.ChangeMaps

/-- Some numbers in a row. -/
def SomeRow (w : World) (n : Nat) (e : Ending) (w' : World) : Prop :=
  ∃ g c, ∃ zs : List Int, zs.length = n ∧ e = .returned (.slice (some ⟨g, 0, none⟩) n c) ∧ CellsAt w' (some ⟨g, 0, none⟩) (zs.map (Value.int .i64)) ∧ Below w.heap.size w w'
theorem map_int_set (zs : List Int) (i : Nat) (z : Int) : (zs.map (Value.int .i64)).set i (.int .i64 z) = (zs.set i z).map (Value.int .i64) := by simp [List.map_set]
set_option maxRecDepth 100000 in
set_option maxHeartbeats 6400000 in
theorem parts_any (p : Pat) (hp : p.Ok) (aP aS : Option Addr) (cP cS : Nat) (op : Int) (w : World) (h : SmsAt w p aS) :
    Calls Tryz.prog 65 #[.agg #[.slice aP p.n cP, .slice aS p.m cS, .int .i64 op]] w (SomeRow w p.n) := by
  have HSm := Lib.hid h
  have HOk := Lib.hid hp
  have hn2 := hp.n2
  have hm8 := hp.m
  obtain ⟨n, hnn⟩ : ∃ n, p.n = n := ⟨_, rfl⟩
  obtain ⟨m, hmm⟩ : ∃ m, p.m = m := ⟨_, rfl⟩
  have HN := Lib.hid hnn
  have HM := Lib.hid hmm
  rw [hnn] at hn2 ⊢
  rw [hmm] at hm8 ⊢
  have HP := Lib.hid (PBox.new w aP n cP aS m cS op)
  have hO := own_none' (w.alloc (.cells #[.slice aP n cP, .slice aS m cS, .int .i64 op] 41)) w.heap.size 2 1 (by simp)
  have HO := Lib.hid hO
  clear hp hmm hnn hO h
  go_enter Tryz.func65, Tryz.ntmps65
  go_wp2_with fail
  go_loopw [3, 12] (fun v i wr => ∃ k : Nat, k ≤ n ∧ i = .int .i64 k ∧ ∃ (g c : Nat) (zs : List Int), zs.length = k ∧ v = .slice (some ⟨g, 0, none⟩) k c ∧ Hid (w.heap.size < g) ∧ Hid (wr.ownsRow w.heap.size 2 1 (.slice (some ⟨g, 0, none⟩) k c) k (zs.map (Value.int .i64))) ∧ Hid (PBox wr w.heap.size aP n cP aS m cS op) ∧ Hid (Bel w.heap.size w wr)) (fun _ i _ => n - (intOf i).toNat)
  case atStart => exact ⟨0, Nat.zero_le _, rfl, _, 0, [], rfl, rfl, Lib.hid (by simp), Lib.hid (by simpa using HO.out), Lib.hid (HP.out.below ((Bel.refl _).alloc _).1), Lib.hid (((Bel.refl w).alloc _).alloc _)⟩
  case round =>
    clear HO HP
    obtain ⟨k, hk, rfl, g, c, zs, hzl, rfl, hwg, hown, hbx, hbw⟩ := hrel
    by_cases hlt : k < n
    · have hws := hbx.out.2.2.2
      go_wp2_with (at_builtin; refine appJ (by rfl) _ _ (by rfl) w.heap.size _ _ _ (by rfl) hown.out (k : Int) 1 wr.heap.size (by simp) (by rfl) (by omega) hbw.out ?_; intro g5 cap5 w5 ho5 hb5 hg5 hat5)
      have HG5 := Lib.hid (show w.heap.size < g5 by
        rcases hat5 with h | h
        · have h1 : g = g5 := (by simpa [Value.ownBlock] using h)
          have := hwg.out
          omega
        · omega)
      have HX5 := Lib.hid (show PBox w5 w.heap.size aP n cP aS m cS op from by
        have hq : ∀ o, w5.cell? ⟨w.heap.size, o, none⟩ = wr.cell? ⟨w.heap.size, o, none⟩ := fun o => hg5.cell_far ⟨w.heap.size, o, none⟩ hws (fun e => by have h1 : w.heap.size = g := (by simpa [Value.ownBlock] using e); have := hwg.out; omega)
        exact ⟨(hq 0).trans hbx.out.1, (hq 1).trans hbx.out.2.1, (hq 2).trans hbx.out.2.2.1, Nat.lt_of_lt_of_le hws hg5.size⟩)
      have HO5 := Lib.hid (show w5.ownsRow w.heap.size 2 1 (.slice (some ⟨g5, 0, none⟩) (k + 1) cap5) (k + 1) ((zs ++ [(k : Int)]).map (Value.int .i64)) by rw [List.map_append]; exact ho5)
      have HB5 := Lib.hid hb5
      clear ho5 hb5 hg5 hat5
      go_roundw
      case rel => exact ⟨k + 1, by omega, by go_num, g5, cap5, zs ++ [(k : Int)], by simp [hzl], rfl, HG5, HO5, HX5, HB5⟩
      case measure => simp [intOf]; omega
    · obtain rfl : k = n := by omega
      obtain ⟨p0, p1, p2, p3⟩ := hbx.out
      go_wp2_with fail
      go_loopw [23] (fun i wx => ∃ r : Nat, r ≤ k ∧ i = .int .i64 r ∧ ∃ zs : List Int, zs.length = k ∧ Hid (wx.ownsRow w.heap.size 2 1 (.slice (some ⟨g, 0, none⟩) k c) k (zs.map (Value.int .i64))) ∧ Hid (PBox wx w.heap.size aP k cP aS m cS op) ∧ Hid (Bel w.heap.size w wx)) (fun i _ => k - (intOf i).toNat)
      case atStart => exact ⟨0, Nat.zero_le _, rfl, zs, hzl, hown, hbx, hbw⟩
      case round =>
        clear p0 p1 p2 p3 hown hbx hbw hzl
        obtain ⟨r, hr, rfl, zs, hzl, hown, hbx, hbw⟩ := hrel
        by_cases hrk : r < k
        · obtain ⟨p0, p1, p2, p3⟩ := hbx.out
          go_wp2_with fail
          go_loopw [28] (fun i wy => ∃ s : Nat, s ≤ m ∧ i = .int .i64 s ∧ ∃ zs : List Int, zs.length = k ∧ Hid (wy.ownsRow w.heap.size 2 1 (.slice (some ⟨g, 0, none⟩) k c) k (zs.map (Value.int .i64))) ∧ Hid (PBox wy w.heap.size aP k cP aS m cS op) ∧ Hid (Bel w.heap.size w wy)) (fun i _ => m - (intOf i).toNat)
          case atStart => exact ⟨0, Nat.zero_le _, rfl, zs, hzl, hown, hbx, hbw⟩
          case round =>
            clear p0 p1 p2 p3 hown hbx hbw hzl
            obtain ⟨s, hs, rfl, zs, hzl, hown, hbx, hbw⟩ := hrel
            by_cases hsm : s < m
            · rcases HSm.out with h0 | ⟨b, off, rfl, hb, hcell⟩
              · exact absurd HM.out (by omega)
              · obtain ⟨c0, c1, c2, c3⟩ := hcell s (by rw [HM.out]; exact hsm)
                have d0 := (hbw.out.1.cell (p := ⟨b, off + s * 4, none⟩) hb).trans c0
                have d1 := (hbw.out.1.cell (p := ⟨b, off + s * 4 + 1, none⟩) hb).trans c1
                have d2 := (hbw.out.1.cell (p := ⟨b, off + s * 4 + 2, none⟩) hb).trans c2
                have d3 := (hbw.out.1.cell (p := ⟨b, off + s * 4 + 3, none⟩) hb).trans c3
                have hon := HOk.out.on s (by rw [HM.out]; exact hsm)
                have hA : (p.a s).1 < k := by have := hon.1.1; rw [HN.out] at this; exact this
                have hB : (p.b s).1 < k := by have := hon.2.1; rw [HN.out] at this; exact this
                clear c0 c1 c2 c3 hcell hon
                generalize (p.a s).1 = xa at d0 hA
                generalize ((p.a s).2 : Int) = ya at d1
                generalize (p.b s).1 = xb at d2 hB
                generalize ((p.b s).2 : Int) = yb at d3
                have hs' : (s : Int) < (m : Int) := by omega
                have hA' : (xa : Int) < (k : Int) := by omega
                have hB' : (xb : Int) < (k : Int) := by omega
                go_upto_region 12 with fail
                clear d0 d1 d2 d3
                have HOw := Lib.hid (hown.out.alloc (.cells #[.int .i64 (xa : Int), .int .i64 ya, .int .i64 (xb : Int), .int .i64 yb] 110))
                have HBw := Lib.hid (hbw.out.alloc (.cells #[.int .i64 (xa : Int), .int .i64 ya, .int .i64 (xb : Int), .int .i64 yb] 110))
                have HXw := Lib.hid (hbx.out.below ((Bel.refl wr).alloc (.cells #[.int .i64 (xa : Int), .int .i64 ya, .int .i64 (xb : Int), .int .i64 yb] 110)).1)
                have hgw := (own_block (b := g) hown.out rfl).2
                obtain ⟨W, hW⟩ : ∃ W, wr.alloc (.cells #[.int .i64 (xa : Int), .int .i64 ya, .int .i64 (xb : Int), .int .i64 yb] 110) = W := ⟨_, rfl⟩
                have e0 : W.cell? ⟨wr.heap.size, 0, none⟩ = some (.int .i64 (xa : Int)) := by rw [← hW]; simp [go_sem]
                have e2 : W.cell? ⟨wr.heap.size, 2, none⟩ = some (.int .i64 (xb : Int)) := by rw [← hW]; simp [go_sem]
                have hsz : wr.heap.size < W.heap.size := by rw [← hW]; simp
                rw [hW] at HOw HBw HXw ⊢
                have gA : W.cell? ⟨g, xa, none⟩ = some (.int .i64 (zs.getD xa 0)) := (HOw.out.cellAt xa (by omega)).trans (by simp [List.getD, List.getElem?_eq_getElem (show xa < zs.length by omega)])
                have gB : W.cell? ⟨g, xb, none⟩ = some (.int .i64 (zs.getD xb 0)) := (HOw.out.cellAt xb (by omega)).trans (by simp [List.getD, List.getElem?_eq_getElem (show xb < zs.length by omega)])
                obtain ⟨za, hza⟩ : ∃ z, zs.getD xa 0 = z := ⟨_, rfl⟩
                obtain ⟨zb, hzb⟩ : ∃ z, zs.getD xb 0 = z := ⟨_, rfl⟩
                rw [hza] at gA
                rw [hzb] at gB
                obtain ⟨q6, hq6⟩ : ∃ q, wr.heap.size = q := ⟨_, rfl⟩
                rw [hq6] at e0 e2 hsz hgw ⊢
                have hqg : q6 ≠ g := by omega
                clear hza hzb hW hown hbx hbw hq6
                have HV := Lib.hid (fun (V : World) (hV : W.drew = V) (L : Int) => (show (V.setCell ⟨g, xa, none⟩ (.int .i64 L)).frozen? ⟨g, xb, none⟩ = false ∧ (V.setCell ⟨g, xa, none⟩ (.int .i64 L)).cell? ⟨q6, 2, none⟩ = some (.int .i64 (xb : Int)) ∧ (∃ y, (V.setCell ⟨g, xa, none⟩ (.int .i64 L)).cell? ⟨g, xb, none⟩ = some (.int .i64 y)) ∧
                    ((V.setCell ⟨g, xa, none⟩ (.int .i64 L)).setCell ⟨g, xb, none⟩ (.int .i64 L)).ownsRow w.heap.size 2 1 (.slice (some ⟨g, 0, none⟩) k c) k ((((zs.set xa L).set xb L)).map (Value.int .i64)) ∧ PBox ((V.setCell ⟨g, xa, none⟩ (.int .i64 L)).setCell ⟨g, xb, none⟩ (.int .i64 L)) w.heap.size aP k cP (some ⟨b, off, none⟩) m cS op ∧ Bel w.heap.size w ((V.setCell ⟨g, xa, none⟩ (.int .i64 L)).setCell ⟨g, xb, none⟩ (.int .i64 L)) from by
                  subst hV
                  have hv : (W.drew).ownsRow w.heap.size 2 1 (.slice (some ⟨g, 0, none⟩) k c) k (zs.map (Value.int .i64)) := HOw.out
                  have s1 := hv.stored xa (.int .i64 L)
                  rw [map_int_set] at s1
                  have s2 := s1.1.stored xb (.int .i64 L)
                  rw [map_int_set] at s2
                  have hwg' := hwg.out
                  have hx : PBox (W.drew) w.heap.size aP k cP (some ⟨b, off, none⟩) m cS op := HXw.out
                  have t0 : (W.drew.setCell ⟨g, xa, none⟩ (.int .i64 L)).cell? ⟨q6, 2, none⟩ = some (.int .i64 (xb : Int)) := (s1.2.cell_far ⟨q6, 2, none⟩ hsz (fun e => hqg (by simpa [Value.ownBlock] using e))).trans e2
                  refine ⟨s1.1.frozenAt xb, t0, ⟨(zs.set xa L)[xb]'(by simp; omega), (s1.1.cellAt xb (by omega)).trans (by rw [List.getElem?_map, List.getElem?_eq_getElem (by simp; omega)]; rfl)⟩, s2.1, ?_, ?_⟩
                  · have hq : ∀ o, ((W.drew.setCell ⟨g, xa, none⟩ (.int .i64 L)).setCell ⟨g, xb, none⟩ (.int .i64 L)).cell? ⟨w.heap.size, o, none⟩ = W.drew.cell? ⟨w.heap.size, o, none⟩ := fun o => by
                      rw [World.cell?_setCell_far _ _ _ _ (show g ≠ w.heap.size by omega), World.cell?_setCell_far _ _ _ _ (show g ≠ w.heap.size by omega)]
                    exact ⟨(hq 0).trans hx.1, (hq 1).trans hx.2.1, (hq 2).trans hx.2.2.1, by simpa [World.setCell] using hx.2.2.2⟩
                  · exact (HBw.out.drew.setCell (p := ⟨g, xa, none⟩) (by show w.heap.size ≤ g; omega) _).setCell (p := ⟨g, xb, none⟩) (by show w.heap.size ≤ g; omega) _))
                have fA := HOw.out.frozenAt xa
                have fB := HOw.out.frozenAt xb
                go_big_region
                clear gA gB
                generalize (if zb < za then zb else za) = L
                obtain ⟨V, hV⟩ : ∃ V, W.drew = V := ⟨_, rfl⟩
                have gA : V.cell? ⟨g, xa, none⟩ = some (.int .i64 (zs.getD xa 0)) := by rw [← hV]; exact (HOw.out.cellAt xa (by omega)).trans (by simp [List.getD, List.getElem?_eq_getElem (show xa < zs.length by omega)])
                have gB : V.cell? ⟨g, xb, none⟩ = some (.int .i64 (zs.getD xb 0)) := by rw [← hV]; exact (HOw.out.cellAt xb (by omega)).trans (by simp [List.getD, List.getElem?_eq_getElem (show xb < zs.length by omega)])
                have e0' : V.cell? ⟨q6, 0, none⟩ = some (.int .i64 (xa : Int)) := by rw [← hV]; exact e0
                have e2' : V.cell? ⟨q6, 2, none⟩ = some (.int .i64 (xb : Int)) := by rw [← hV]; exact e2
                have fA' : V.frozen? ⟨g, xa, none⟩ = false := by rw [← hV]; exact fA
                have fB' : V.frozen? ⟨g, xb, none⟩ = false := by rw [← hV]; exact fB
                have hgV : g < V.heap.size := by rw [← hV]; show g < W.heap.size; omega
                obtain ⟨a1, a2, ⟨ay, a3⟩, a4, a5, a6⟩ := HV.out V hV L
                have HA := Lib.hid (And.intro a4 (And.intro a5 a6))
                rw [hV]
                clear a4 a5 a6 hV HV e0 e2 fA fB
                go_wp2_with fail
                go_big_region
                clear a1 a2 a3 gA gB e0' e2' fA' fB'
                go_wp2_with fail
                go_roundw
                case rel => exact ⟨s + 1, by omega, by go_num, (zs.set xa L).set xb L, by simp [hzl], Lib.hid HA.out.1, Lib.hid HA.out.2.1, Lib.hid HA.out.2.2.drew⟩
                case measure => simp [intOf]; omega
            · obtain rfl : s = m := by omega
              go_wp2_with fail
              go_roundw
              case rel => exact ⟨r + 1, by omega, by go_num, zs, hzl, hown, hbx, hbw⟩
              case measure => simp [intOf]; omega
        · obtain rfl : r = k := by omega
          go_wp2_with fail
          go_ret
          exact ⟨g, c, zs, hzl, rfl, CellsAt.of_own hown.out, hbw.out.1⟩
end Go.Proofs.YthemlamdchcicaaGreatDoor
