/-
  The reference's tests of a valid pattern. No condition of its own.
-/
import Derived.Test.YthemlamdchcicaaGreatDoorGPatD
import Derived.Test.YthemlamdchcicaaGreatDoorPatU
namespace Go.Proofs.YthemlamdchcicaaGreatDoor
open Go.ChangeShapes Go.WideShapes Go.ChangeAt Go.RowKit Go.Deep Go.Shelf Go.ChangeMaps

theorem Pat.Ok.times_le {p : Pat} (h : p.Ok) (e : Ed) : ∀ K, K ≤ p.m → p.timesTo K e ≤ 1
  | 0, _ => by simp [Pat.timesTo]
  | K + 1, hK => by
    have ih := h.times_le e K (by omega)
    have hab := h.ab K (by omega)
    show p.timesTo K e + (if p.a K = e then 1 else 0) + (if p.b K = e then 1 else 0) ≤ 1
    by_cases h0 : p.timesTo K e = 0
    · rw [h0]
      by_cases h1 : p.a K = e
      · rw [if_pos h1, if_neg (fun h2 => hab (h1.trans h2.symm))]
        omega
      · rw [if_neg h1]
        split <;> omega
    · have hm : p.mateTo K e ≠ none := fun x => h0 ((p.timesTo_zero e K).2 x)
      obtain ⟨o, ho⟩ := Option.ne_none_iff_exists'.1 hm
      obtain ⟨k, hk, hh⟩ := Pat.mateTo_some ho
      obtain ⟨r1, r2, r3, r4⟩ := h.aa k K hk (by omega)
      have h1 : ¬ p.a K = e := fun x => by
        rcases hh with ⟨y, _⟩ | ⟨y, _⟩
        · exact r1 (y.symm.trans x.symm)
        · exact r3 (y.symm.trans x.symm)
      have h2 : ¬ p.b K = e := fun x => by
        rcases hh with ⟨y, _⟩ | ⟨y, _⟩
        · exact r2 (y.symm.trans x.symm)
        · exact r4 (y.symm.trans x.symm)
      rw [if_neg h1, if_neg h2]
      omega
set_option maxHeartbeats 3200000 in
theorem l08One_ok (p : Pat) (hp : p.Ok) (b o i : Nat) (hi : i < p.n) (w : World) (h : PcsAt w p (some ⟨b, o, none⟩)) :
    Calls Tryz.prog 117 #[.pointer (some ⟨b, o + i * 2, none⟩)] w fun r w' => r = .returned (.bool true) ∧ Below w.heap.size w w' := by
  obtain ⟨n1, n2⟩ := hp.name i hi
  have hl := hp.len i hi
  have hv := fun j => hp.val i j hi
  obtain ⟨b', o', e, hbs, hall⟩ := h
  cases e
  obtain ⟨c0, g, q, c, c1, _, hgs, hc⟩ := hall i hi
  have HN := Lib.hid (fun W => specName_any (p.name i) W (by unfold maxLen; omega))
  rw [n1] at HN
  have i1 : inB (p.len i : Int) 3 8 = true := inB_true.2 ⟨by omega, by omega⟩
  generalize p.name i = s at c0 HN
  have Hv := Lib.hid hv
  have Hc := Lib.hid hc
  obtain ⟨L, hL⟩ : ∃ L, p.len i = L := ⟨_, rfl⟩
  rw [hL] at c1 i1 hl Hc Hv
  have HI := Lib.hid (fun W => l00In_any (L : Int) 3 8 W)
  rw [i1] at HI
  clear hall hv hc n1 n2 hp hL i1
  go_enter Tryz.func117, Tryz.ntmps117
  go_wp2_with fail
  go_loopw [3] (fun i wr => ∃ k : Nat, k ≤ L ∧ i = .int .i64 k ∧ w = wr) (fun i _ => L - (intOf i).toNat)
  case atStart => exact ⟨0, Nat.zero_le _, rfl, rfl⟩
  case round =>
    obtain ⟨k, hk, rfl, rfl⟩ := hrel
    by_cases hlt : k < L
    · have hlt' : (k : Int) < (L : Int) := by omega
      have hck := Hc.out k hlt
      have hz := Hv.out k hlt
      have HZ := Lib.hid (fun W => l00In_any (p.val i k) 1 10000 W)
      rw [inB_true.2 hz] at HZ
      generalize p.val i k = z at hck HZ
      clear hz
      go_wp2_with (go_at_call 118; refine (HZ.out _).mono ?_; rintro e w1 ⟨rfl, rfl⟩)
      go_roundw
      case rel => exact ⟨k + 1, by omega, by go_num, by first | rfl | trivial⟩
      case measure => simp [intOf]; omega
    · go_wp2_with (first | (go_at_call 128; refine (HN.out _).mono ?_; rintro e w1 ⟨rfl, rfl⟩) | (go_at_call 118; refine (HI.out _).mono ?_; rintro e w1 ⟨rfl, rfl⟩))
      go_ret
      exact ⟨rfl, Below.refl _ _⟩
set_option maxHeartbeats 3200000 in
theorem l08Edge_ok (p : Pat) (aP aS : Option Addr) (cP cS : Nat) (op : Int) (e : Ed) (he : p.on e) (hn : p.n ≤ 10) (hl : p.len e.1 ≤ 8) (q : Nat) (w : World) (hq : PBox w q aP p.n cP aS p.m cS op) (h : PcsAt w p aP) :
    Calls Tryz.prog 119 #[.pointer (some ⟨q, 0, none⟩), .int .i64 (e.1 : Int), .int .i64 (e.2 : Int)] w fun r w' => r = .returned (.bool true) ∧ w = w' := by
  obtain ⟨b, o, rfl, h1, h2⟩ := h
  obtain ⟨h3, g, qq, c, h4, h5, h6, h7⟩ := h2 e.1 he.1
  obtain ⟨p0, p1, p2, p3⟩ := hq
  have hx : e.1 < p.n := he.1
  have hy : e.2 < p.len e.1 := he.2
  generalize p.n = n at hx hn p0
  generalize p.len e.1 = L at hy hl h4 h5
  generalize e.1 = x at hx h4
  generalize e.2 = y at hy
  have hx2 : (x : Int) < (n : Int) := by omega
  have i1 : inB (x : Int) 0 ((n : Int) - 1) = true := inB_true.2 ⟨by omega, by omega⟩
  have i2 : inB (y : Int) 0 ((L : Int) - 1) = true := inB_true.2 ⟨by omega, by omega⟩
  have v1 : IntKind.i64.wrap ((n : Int) - 1) = (n : Int) - 1 := IntWalk.i64_in _ (by omega)
  have v2 : IntKind.i64.wrap ((L : Int) - 1) = (L : Int) - 1 := IntWalk.i64_in _ (by omega)
  have H1 := Lib.hid (fun W => l00In_any (x : Int) 0 ((n : Int) - 1) W)
  have H2 := Lib.hid (fun W => l00In_any (y : Int) 0 ((L : Int) - 1) W)
  rw [i1] at H1
  rw [i2] at H2
  clear h2 h7 h3 he i1 i2
  go_enter Tryz.func119, Tryz.ntmps119
  go_wp2_with (go_at_call 118; (first | (with_reducible refine (H1.out _).mono ?_) | (with_reducible refine (H2.out _).mono ?_)); rintro e w1 ⟨rfl, rfl⟩)
  go_ret
  exact ⟨rfl, rfl⟩
set_option maxHeartbeats 3200000 in
theorem l08Seam_ok (p : Pat) (hp : p.Ok) (aP aS : Option Addr) (cP cS : Nat) (op : Int) (a b : Ed) (ha : p.on a) (hb : p.on b) (q : Nat) (w : World) (hq : PBox w q aP p.n cP aS p.m cS op) (h : PcsAt w p aP) :
    Calls Tryz.prog 96 #[.pointer (some ⟨q, 0, none⟩), .agg #[.int .i64 (a.1 : Int), .int .i64 (a.2 : Int), .int .i64 (b.1 : Int), .int .i64 (b.2 : Int)]] w fun r w' => r = .returned (.bool true) ∧ Below w.heap.size w w' := by
  have HA := Lib.hid (fun W (hW : Below w.heap.size w W) => l08Edge_ok p aP aS cP cS op a ha hp.n2 (hp.len _ ha.1).2 q W (hq.below hW) (h.below hW))
  have HB := Lib.hid (fun W (hW : Below w.heap.size w W) => l08Edge_ok p aP aS cP cS op b hb hp.n2 (hp.len _ hb.1).2 q W (hq.below hW) (h.below hW))
  generalize (a.1 : Int) = x at HA ⊢
  generalize (a.2 : Int) = y at HA ⊢
  generalize (b.1 : Int) = u at HB ⊢
  generalize (b.2 : Int) = v at HB ⊢
  have HW := Lib.hid (show Below w.heap.size w (w.alloc (.cells #[.int .i64 x, .int .i64 y, .int .i64 u, .int .i64 v] 110)) from ((Bel.refl w).alloc _).1)
  clear hp ha hb hq h
  go_enter Tryz.func96, Tryz.ntmps96
  go_wp2_with fail
  refine (HA.out _ HW.out).mono ?_
  rintro e w1 ⟨rfl, rfl⟩
  go_wp2_with fail
  refine (HB.out _ HW.out).mono ?_
  rintro e w1 ⟨rfl, rfl⟩
  go_wp2_with fail
  go_ret
  exact ⟨rfl, HW.out⟩
theorem Pat.Ok.times_one {p : Pat} (h : p.Ok) (e : Ed) : ¬ (1 : Int) < (p.times e : Int) := by
  have := h.times_le e p.m (Nat.le_refl _)
  show ¬ (1 : Int) < (p.timesTo p.m e : Int)
  omega
set_option maxRecDepth 100000 in
set_option maxHeartbeats 6400000 in
theorem l08Ok_ok (p : Pat) (hp : p.Ok) (aP aS : Option Addr) (cP cS : Nat) (op : Int) (hop : 0 ≤ op ∧ op ≤ 100) (q : Nat) (w : World) (hq : PBox w q aP p.n cP aS p.m cS op) (h : PatAt w p aP aS) :
    Calls Tryz.prog 95 #[.pointer (some ⟨q, 0, none⟩)] w fun r w' => r = .returned (.bool true) ∧ Below w.heap.size w w' := by
  have HQ := Lib.hid hq
  have HPa := Lib.hid h
  have HOk := Lib.hid hp
  have n1 := hp.n1
  have n2 := hp.n2
  have m8 := hp.m
  obtain ⟨b, o, rfl, _, _⟩ := h.1
  have H1 := Lib.hid (fun (i : Nat) (hi : i < p.n) (X : World) (hX : Below w.heap.size w X) => l08One_ok p hp b o i hi X (h.1.below hX))
  have H2 := Lib.hid (fun (k : Nat) (hk : k < p.m) (X : World) (hX : Below w.heap.size w X) => l08Seam_ok p hp (some ⟨b, o, none⟩) aS cP cS op (p.a k) (p.b k) (hp.on k hk).1 (hp.on k hk).2 q X (hq.below hX) (h.1.below hX))
  have H3 := Lib.hid (fun (e : Ed) (X : World) (hX : Below w.heap.size w X) => l08Times_any p hp.m (some ⟨b, o, none⟩) aS cP cS op e.1 e.2 q X (hq.below hX) (h.2.below hX))
  have i1 : inB (p.n : Int) 1 10 = true := inB_true.2 ⟨by omega, by omega⟩
  have I2 := Lib.hid (fun X => l00In_any op 0 100 X)
  rw [inB_true.2 hop] at I2
  obtain ⟨n, hn⟩ : ∃ n, p.n = n := ⟨_, rfl⟩
  obtain ⟨m, hm⟩ : ∃ m, p.m = m := ⟨_, rfl⟩
  have HM := Lib.hid hm
  have HN := Lib.hid hn
  rw [hn] at HQ H1 i1 n1 n2
  rw [hm] at HQ H2 m8
  have I1 := Lib.hid (fun X => l00In_any (n : Int) 1 10 X)
  rw [i1] at I1
  clear hq h hp hop hn hm i1
  go_enter Tryz.func95, Tryz.ntmps95
  go_wp2_with fail
  go_loopw [3] (fun i wr => ∃ k : Nat, k ≤ n ∧ i = .int .i64 k ∧ Hid (Below w.heap.size w wr)) (fun i _ => n - (intOf i).toNat)
  case atStart => exact ⟨0, Nat.zero_le _, rfl, Lib.hid (Below.refl _ _)⟩
  case round =>
    obtain ⟨k, hk, rfl, hbw⟩ := hrel
    obtain ⟨p0, p1, p2, p3⟩ := HQ.out.below hbw.out
    by_cases hlt : k < n
    · have hlt' : (k : Int) < (n : Int) := by omega
      go_wp2_with fail
      refine (H1.out k hlt wr hbw.out).mono ?_
      rintro e w1 ⟨rfl, hb1⟩
      have HB1 := Lib.hid (hbw.out.trans (hb1.mono hbw.out.size))
      clear hb1 p0 p1 p2 p3
      go_wp2_with fail
      go_roundw
      case rel => exact ⟨k + 1, by omega, by go_num, HB1⟩
      case measure => simp [intOf]; omega
    · go_wp2_with (go_at_call 118; (first | (with_reducible refine (I1.out _).mono ?_) | (with_reducible refine (I2.out _).mono ?_)); rintro e w1 ⟨rfl, rfl⟩)
      clear p0 p1 p2 p3
      go_loopw [4] (fun i wx => ∃ k : Nat, k ≤ m ∧ i = .int .i64 k ∧ Hid (Below w.heap.size w wx)) (fun i _ => m - (intOf i).toNat)
      case atStart => exact ⟨0, Nat.zero_le _, rfl, hbw⟩
      case round =>
        clear hbw
        obtain ⟨r, hr, rfl, hbw⟩ := hrel
        obtain ⟨p0, p1, p2, p3⟩ := HQ.out.below hbw.out
        by_cases hlr : r < m
        · rcases HPa.out.2 with h0 | ⟨b', off, rfl, hb, hcell⟩
          · exact absurd HM.out (by omega)
          · obtain ⟨c0, c1, c2, c3⟩ := hcell r (by rw [HM.out]; exact hlr)
            have d0 := (hbw.out.cell (p := ⟨b', off + r * 4, none⟩) hb).trans c0
            have d1 := (hbw.out.cell (p := ⟨b', off + r * 4 + 1, none⟩) hb).trans c1
            have d2 := (hbw.out.cell (p := ⟨b', off + r * 4 + 2, none⟩) hb).trans c2
            have d3 := (hbw.out.cell (p := ⟨b', off + r * 4 + 3, none⟩) hb).trans c3
            have HS := Lib.hid (fun X hX => H2.out r hlr X hX)
            have HTa := Lib.hid (fun X hX => H3.out (p.a r) X hX)
            have HTb := Lib.hid (fun X hX => H3.out (p.b r) X hX)
            have ta := HOk.out.times_one (p.a r)
            have tb := HOk.out.times_one (p.b r)
            clear c0 c1 c2 c3 hcell
            obtain ⟨Ta, hTa⟩ : ∃ t, p.times ((p.a r).1, (p.a r).2) = t := ⟨_, rfl⟩
            obtain ⟨Tb, hTb⟩ : ∃ t, p.times ((p.b r).1, (p.b r).2) = t := ⟨_, rfl⟩
            rw [hTa] at HTa
            rw [hTb] at HTb
            change ¬ (1 : Int) < (p.times ((p.a r).1, (p.a r).2) : Int) at ta
            change ¬ (1 : Int) < (p.times ((p.b r).1, (p.b r).2) : Int) at tb
            rw [hTa] at ta
            rw [hTb] at tb
            have ta' : decide ((1 : Int) < (Ta : Int)) = false := decide_eq_false ta
            have tb' : decide ((1 : Int) < (Tb : Int)) = false := decide_eq_false tb
            clear hTa hTb ta tb
            generalize ((p.a r).1 : Int) = xa at d0 HS HTa
            generalize ((p.a r).2 : Int) = ya at d1 HS HTa
            generalize ((p.b r).1 : Int) = xb at d2 HS HTb
            generalize ((p.b r).2 : Int) = yb at d3 HS HTb
            have hlr' : (r : Int) < (m : Int) := by omega
            go_wp2_with fail
            have HB1 := Lib.hid (show Below w.heap.size w (wr.alloc (.cells #[.int .i64 xa, .int .i64 ya, .int .i64 xb, .int .i64 yb] 110)) from hbw.out.alloc hbw.out.size _)
            refine (HS.out _ HB1.out).mono ?_
            rintro e w1 ⟨rfl, hb1⟩
            have HC1 := Lib.hid (show w1.cell? ⟨wr.heap.size, 0, none⟩ = some (.int .i64 xa) ∧ w1.cell? ⟨wr.heap.size, 1, none⟩ = some (.int .i64 ya) ∧ w1.cell? ⟨wr.heap.size, 2, none⟩ = some (.int .i64 xb) ∧ w1.cell? ⟨wr.heap.size, 3, none⟩ = some (.int .i64 yb) ∧ wr.heap.size < w1.heap.size from
              ⟨(hb1.cell (p := ⟨wr.heap.size, 0, none⟩) (by simp)).trans (by simp [go_sem]), (hb1.cell (p := ⟨wr.heap.size, 1, none⟩) (by simp)).trans (by simp [go_sem]), (hb1.cell (p := ⟨wr.heap.size, 2, none⟩) (by simp)).trans (by simp [go_sem]), (hb1.cell (p := ⟨wr.heap.size, 3, none⟩) (by simp)).trans (by simp [go_sem]), by have := hb1.size; simp at this; omega⟩)
            have HB2 := Lib.hid (HB1.out.trans (hb1.mono HB1.out.size))
            clear hb1 d0 d1 d2 d3 p0 p1 p2 p3
            obtain ⟨e0, e1, e2, e3, e4⟩ := HC1.out
            go_wp2_with fail
            refine (HTa.out w1 HB2.out).mono ?_
            rintro e w2 ⟨rfl, hb2⟩
            have HB3 := Lib.hid (HB2.out.trans (hb2.mono HB2.out.size))
            have f2 := (hb2.cell (p := ⟨wr.heap.size, 2, none⟩) e4).trans e2
            have f3 := (hb2.cell (p := ⟨wr.heap.size, 3, none⟩) e4).trans e3
            clear hb2 e0 e1 e2 e3
            go_wp2_with fail
            refine (HTb.out w2 HB3.out).mono ?_
            rintro e w3 ⟨rfl, hb3⟩
            have HB4 := Lib.hid (HB3.out.trans (hb3.mono HB3.out.size))
            clear hb3 f2 f3
            go_wp2_with fail
            go_roundw
            case rel => exact ⟨r + 1, by omega, by go_num, HB4⟩
            case measure => simp [intOf]; omega
        · go_wp2_with fail
          go_ret
          exact ⟨rfl, hbw.out⟩
end Go.Proofs.YthemlamdchcicaaGreatDoor
