/-
  The reference's draw of a pattern. No condition of its own but the copy's contract.
-/
import Derived.Test.YthemlamdchcicaaGreatDoorGBox
import Derived.Test.YthemlamdchcicaaGreatDoorPatD1
import Derived.BigRegion
namespace Go.Proofs.YthemlamdchcicaaGreatDoor
open Go.ChangeShapes Go.WideShapes Go.ChangeAt Go.RowKit Go.Deep Go.Shelf Go.ChangeMaps

def OwnLaw : Prop := ∀ (p : Pat) (_ : p.Ok) (aP aS : Option Addr) (cP cS : Nat) (op : Int) (g cE : Nat → Nat) (B0 q : Nat) (w : World) (_ : PBox w q aP p.n cP aS p.m cS op) (_ : PatOwn w B0 p aP cP aS cS g cE),
  Calls Tryz.prog 98 #[.pointer (some ⟨q, 0, none⟩)] w fun e w' => ∃ aP' cP' aS' cS' g' cE', e = .returned (.agg #[.slice aP' p.n cP', .slice aS' p.m cS', .int .i64 op]) ∧ PatOwn w' w.heap.size p aP' cP' aS' cS' g' cE' ∧ Below w.heap.size w w'
/-- A drawn pattern. -/
def PatEnd (w0 w : World) (sp : Nat) (ac : Option Addr) (nc cc A : Nat) (e : Ending) (w' : World) : Prop :=
  ∃ (p : Pat) (a : Option Addr) (c : Nat) (aS : Option Addr) (cS : Nat) (op : Int) (g cE : Nat → Nat), e = .returned (.agg #[.slice a p.n c, .slice aS p.m cS, .int .i64 op]) ∧ p.Ok ∧ (0 ≤ op ∧ op ≤ 100) ∧ PatOwn w' w.heap.size p a c aS cS g cE ∧ SrcAt w' w0.heap.size sp ac nc cc A ∧ w.grownBy w' (some sp) ∧ Bel w0.heap.size w0 w'
theorem DMem.piece {w0 w wr : World} {sp q nc cc A c cS bP : Nat} {ac aS : Option Addr} {p : Pat} {op : Int} {g cE : Nat → Nat} (h : DMem w0 w wr sp q ac nc cc A p (some ⟨bP, 0, none⟩) c aS cS op g cE) {i : Nat} (hi : i < p.n) :
    wr.cell? ⟨bP, i * 2 + 1, none⟩ = some (.slice (some ⟨g i, 0, none⟩) (p.len i) (cE i)) := (h.own.pcs.row.cellAt (i * 2 + 1) (by omega)).trans (pcC_at p g cE p.n i hi).2
set_option maxRecDepth 100000 in
set_option maxHeartbeats 6400000 in
theorem l08Draw_with (hOwn : OwnLaw) (w0 w : World) (sp nc cc A : Nat) (ac : Option Addr) (hc : CodeAt w0 ac nc) (hb : Bel w0.heap.size w0 w) (hs : SrcAt w w0.heap.size sp ac nc cc A) (hA : A ≤ 1000) :
    Calls Tryz.prog 30 #[.pointer (some ⟨sp, 0, none⟩)] w (PatEnd w0 w sp ac nc cc (A + 400)) := by
  obtain ⟨hp1, hp2⟩ := hs.base
  have HOwn := Lib.hid hOwn
  have HC := Lib.hid hc
  have HG := Lib.hid (fun (W W' : World) (h : Bel w0.heap.size w0 W) (hg : W.grownBy W' (some sp)) => h.grown hg (fun k h => by cases h; exact hp1))
  obtain ⟨W1, hW⟩ : ∃ W, (w.alloc (.cells #[.slice none 0 0, .slice none 0 0, .int .i64 0] 41)).alloc (.cells #[.slice none 0 0, .slice none 0 0, .int .i64 0] 41) = W := ⟨_, rfl⟩
  have hM : DMem w0 w W1 sp (w.heap.size + 1) ac nc cc A pat0 none 0 none 0 0 (fun _ => 0) (fun _ => 0) := by
    rw [← hW]
    refine ⟨(Obx.new w w.heap.size 41 3 #[.slice none 0 0, .slice none 0 0, .int .i64 0] (Nat.le_refl _) rfl).alloc _, ?_, ⟨⟨World.ownsRow_nil _ _ _ _, fun i hi => absurd hi (Nat.not_lt_zero _), fun i hi => absurd hi (Nat.not_lt_zero _), fun i j _ hj => absurd hj (Nat.not_lt_zero _)⟩, World.ownsRow_nil _ _ _ _, fun b b' hb => by simp [Value.ownBlock] at hb, fun i hi => absurd hi (Nat.not_lt_zero _)⟩, fun b hb => by simp [Value.ownBlock] at hb, fun i hi => absurd hi (Nat.not_lt_zero _), fun b hb => by simp [Value.ownBlock] at hb, (hs.alloc _).alloc _, (hb.alloc _).alloc _, grown_alloc_l (World.grownBy_alloc w _ (some sp)) _⟩
    have h := Obx.new (w.alloc (.cells #[.slice none 0 0, .slice none 0 0, .int .i64 0] 41)) (w.heap.size + 1) 41 3 #[.slice none 0 0, .slice none 0 0, .int .i64 0] (by simp) rfl
    have h2 : Obx ((w.alloc (.cells #[.slice none 0 0, .slice none 0 0, .int .i64 0] 41)).alloc (.cells #[.slice none 0 0, .slice none 0 0, .int .i64 0] 41)) (w.heap.size + 1) (w.heap.size + 1) 41 3 [.slice none 0 0, .slice none 0 0, .int .i64 0] := by simpa using h
    exact h2
  have HM := Lib.hid hM
  have HW := Lib.hid hW
  clear hM hW hc hb hs hOwn
  go_enter Tryz.func30, Tryz.ntmps30
  go_upto_region 2 with fail
  rw [HW.out]
  generalize w.heap.size + 1 = q at HM ⊢
  go_wp2_with fail
  refine (pick_any w0 _ sp nc cc A ac 4 HC.out HM.out.bel HM.out.src (by omega) (by omega)).mono ?_
  rintro e w2 ⟨r, rfl, ra, rb, hs2, hg2⟩
  obtain ⟨r, rfl⟩ : ∃ k : Nat, r = (k : Int) := ⟨r.toNat, by omega⟩
  have hr3 : r ≤ 3 := by omega
  have HM2 := Lib.hid (HM.out.drawn hp1 hp2 hs2 hg2)
  clear hs2 hg2 HM ra rb
  go_wp2_with fail
  go_loopw [4] (fun i wr => ∃ k n : Nat, k + n = 1 + r ∧ i = .int .i64 (k : Int) ∧ ∃ (p : Pat) (a : Option Addr) (c : Nat) (g cE : Nat → Nat), Hid (p.Pre ∧ p.n = n) ∧ Hid (DMem w0 w wr sp q ac nc cc (A + 2 + 40 * n) p a c none 0 0 g cE)) (fun i _ => (intOf i).toNat)
  case atStart => exact ⟨1 + r, 0, by omega, by first | rfl | (congr 1 <;> omega) | (simp), pat0, none, 0, _, _, Lib.hid ⟨pat0_pre, rfl⟩, HM2⟩
  case round =>
    clear HM2
    obtain ⟨k, n, hkn, rfl, p, a, c, g, cE, HPre, HM⟩ := hrel
    by_cases hk : 0 < k
    · have hk' : (0 : Int) < (k : Int) := by omega
      have HCall := Lib.hid ((l08New_any w0 wr.drew sp nc cc (A + 2 + 40 * n) ac HC.out HM.out.bel.drew (show SrcAt wr.drew w0.heap.size sp ac nc cc (A + 2 + 40 * n) from HM.out.src) (by omega)).mono (R' := fun e w5 => ∃ (s : ByteArray) (x L cx : Nat), e = .returned (.agg #[.string s, .slice (some ⟨x, 0, none⟩) L cx]) ∧ w5.cell? ⟨q, 0, none⟩ = some (.slice a n c) ∧ q < w5.heap.size ∧ w.heap.size + 1 ≤ w5.heap.size ∧ Hid (w5.ownsRow (w.heap.size + 1) 107 2 (.slice a n c) n (pcC p g cE n)) ∧ Hid (Obx w5 (w.heap.size + 1) q 41 3 [.slice a n c, .slice none p.m 0, .int .i64 0] ∧ ∀ b, (Value.slice a n c).ownBlock = some b → b ≠ q) ∧
          ∃ zs : List Int, Hid (L = zs.length ∧ (okName s = true ∧ s.size ≤ 20) ∧ (3 ≤ zs.length ∧ zs.length ≤ 6) ∧ (∀ z ∈ zs, 1 ≤ z ∧ z ≤ 10000) ∧ w5.ownsRow (w.heap.size + 1) 2 1 (.slice (some ⟨x, 0, none⟩) zs.length cx) zs.length (zs.map (Value.int .i64)) ∧ (∀ i, i < p.n → g i ≠ x) ∧ (∀ b, (Value.slice a p.n c).ownBlock = some b → b ≠ x) ∧ x ≠ q) ∧ Hid (DMem w0 w w5 sp q ac nc cc (A + 2 + 40 * (n + 1)) p a c none 0 0 g cE)) (fun e w5 ⟨s, x, L, cx, zs, he, h1, h2, h3, h4, h5, h6, h7, _⟩ => by
        have hn := HPre.out.2
        have hm := HM.out
        have hg := grown_from_drew h7
        have hM5 := hm.drawn hp1 hp2 (h6.more (show A + 2 + 40 * n + 40 ≤ A + 2 + 40 * (n + 1) by omega)) hg
        have ht := hm.top
        have hx := (own_block (b := x) h5 rfl).1
        have hx' : wr.heap.size ≤ x := hx
        have hwr : w.heap.size + 1 ≤ wr.heap.size := by have h8 := hm.box.lt; omega
        subst hn
        subst h3
        exact ⟨s, x, zs.length, cx, he, hM5.box.cell 0 (by omega), hM5.box.lt.2, by have h8 := hM5.box.lt; omega, Lib.hid hM5.own.pcs.row, Lib.hid ⟨hM5.box, hM5.n1⟩, zs, Lib.hid ⟨rfl, h1, h2, h4, own_base h5 hwr, fun i hi e => by have := ht.eds i hi; omega, fun b hb e => by have := ht.pcs b hb; omega, by have := ht.q; omega⟩, Lib.hid hM5⟩))
      have k0 : wr.cell? ⟨q, 0, none⟩ = some (.slice a n c) := by rw [← HPre.out.2]; exact HM.out.box.cell 0 (by omega)
      have k9 := HM.out.box.lt.2
      have hn9 : n ≤ 1000 := by omega
      go_wp2_with fail
      go_region_law (first
        | (go_simp; go_at_call 60; (with_reducible refine HCall.out.mono ?_); rintro e w5 ⟨s, x, L, cx, rfl, s0, s1, s2, H3, H4, zs, H5, H6⟩)
        | (refine step_append_piece (by rfl) _ _ (by rfl) (w.heap.size + 1) n c q x L cx s a (pcC p g cE n) _ _ (w.heap.size + 1) (by rfl) (by rfl) H3 hn9 s2 H4 ?_; intro a' c' w6 H7 y0 y1 y2)
        | fail)
      all_goals
        have HM7 := Lib.hid (show DMem w0 w (w6.setCell ⟨q, 0, none⟩ (.slice a' (n + 1) c')) sp q ac nc cc (A + 2 + 40 * (n + 1)) (p.addPc s zs) a' c' none 0 0 (upd g n x) (upd cE n cx) from by
          have hn := HPre.out.2
          subst hn
          obtain ⟨e1, e2, e3, e4, e5, e6, e7, e8⟩ := H5.out
          subst e1
          exact H6.out.more hp1 hp2 (Nat.le_refl _) e5 e6 e7 e8 H7.out.2.1 H7.out.1 H7.out.2.2)
        have HP7 := Lib.hid (show (p.addPc s zs).Pre ∧ (p.addPc s zs).n = n + 1 from ⟨HPre.out.1.addPc H5.out.2.1 H5.out.2.2.1 H5.out.2.2.2.1, by show p.n + 1 = n + 1; rw [HPre.out.2]⟩)
        clear s0 s1 s2 y0 y1 y2 H3 H4 H5 H6 H7 k0 k9
        go_wp2_with fail
        go_roundw
        case rel => exact ⟨k - 1, n + 1, by omega, by first | go_num | (congr 1; omega), _, a', c', _, _, HP7, HM7⟩
        case measure => simp [intOf]; omega
    · obtain rfl : k = 0 := by omega
      obtain rfl : n = 1 + r := by omega
      have HOk := Lib.hid (show p.Ok ∧ p.n = 1 + r from ⟨HPre.out.1.ok (by rw [HPre.out.2]; omega) (by rw [HPre.out.2]; omega), HPre.out.2⟩)
      have hm0 := HPre.out.1.m
      have HM' := Lib.hid (show DMem w0 w wr sp q ac nc cc (A + 170) p a c none 0 0 g cE from ⟨HM.out.res, HM.out.box, HM.out.own, HM.out.n1, HM.out.n2, HM.out.n3, HM.out.src.more (by omega), HM.out.bel, HM.out.gr⟩)
      clear HM HPre
      go_wp2_with fail
      refine (pick_any w0 _ sp nc cc (A + 170) ac 9 HC.out HM'.out.bel HM'.out.src (by omega) (by omega)).mono ?_
      rintro e w3 ⟨K, rfl, Ka, Kb, hs3, hg3⟩
      obtain ⟨K, rfl⟩ : ∃ k : Nat, K = (k : Int) := ⟨K.toNat, by omega⟩
      have hK8 : K ≤ 8 := by omega
      have HM3 := Lib.hid (HM'.out.drawn hp1 hp2 hs3 hg3)
      clear hs3 hg3 HM' Ka Kb
      go_wp2_with fail
      go_loopw [5] (fun i wx => ∃ k d : Nat, k + d = K ∧ i = .int .i64 (k : Int) ∧ ∃ (p : Pat) (a : Option Addr) (c : Nat) (aS : Option Addr) (cS : Nat) (g cE : Nat → Nat), Hid (p.Ok ∧ p.m ≤ d) ∧ Hid (DMem w0 w wx sp q ac nc cc (A + 172 + 10 * d) p a c aS cS 0 g cE)) (fun i _ => (intOf i).toNat)
      case atStart => exact ⟨K, 0, by omega, by first | rfl | (congr 1 <;> omega) | (simp), p, a, c, none, 0, g, cE, Lib.hid ⟨HOk.out.1, by omega⟩, HM3⟩
      case round =>
        clear HM3 HOk hm0 hkn
        clear p a c g cE
        obtain ⟨k, d, hkd, rfl, p, a, c, aS, cS, g, cE, HOk, HM⟩ := hrel
        by_cases hk : 0 < k
        · have hk' : (0 : Int) < (k : Int) := by omega
          obtain ⟨bP, rfl⟩ : ∃ b, a = some ⟨b, 0, none⟩ := by
            rcases own_form HM.out.own.pcs.row with h0 | h0
            · exact absurd HOk.out.1.n1 (by omega)
            · exact h0
          obtain ⟨n, hn⟩ : ∃ n, p.n = n := ⟨_, rfl⟩
          have HN := Lib.hid hn
          have n1 := HOk.out.1.n1
          have n2 := HOk.out.1.n2
          have p0 : wr.cell? ⟨q, 0, none⟩ = some (.slice (some ⟨bP, 0, none⟩) n c) := by rw [← hn]; exact HM.out.box.cell 0 (by omega)
          have pl := HM.out.box.lt.2
          rw [hn] at n1 n2
          clear hn
          go_upto_region 10 with (go_at_call 36; refine (pick_any w0 _ sp nc cc (A + 172 + 10 * d) ac (n : Int) HC.out HM.out.bel HM.out.src (by omega) (by omega)).mono ?_; rintro e w4 ⟨xA, rfl, xa, xb, hs4, hg4⟩)
          obtain ⟨x, rfl⟩ : ∃ k : Nat, xA = (k : Int) := ⟨xA.toNat, by omega⟩
          have hx : x < n := by omega
          have hx' : (x : Int) < (n : Int) := by omega
          have hMa := HM.out.drawn hp1 hp2 hs4 hg4
          have HT := Lib.hid hMa.top
          have HMa := Lib.hid (hMa.below ((Bel.refl w4).alloc (.cells #[.int .i64 (x : Int), .int .i64 0, .int .i64 0, .int .i64 0] 110)).1)
          have HX := Lib.hid (Obx.new w4 (w.heap.size + 1) 110 4 #[.int .i64 (x : Int), .int .i64 0, .int .i64 0, .int .i64 0] (by have := hMa.box.lt; omega) rfl)
          clear hs4 hg4 p0 pl HM hMa xa xb
          generalize w4.alloc (.cells #[.int .i64 (x : Int), .int .i64 0, .int .i64 0, .int .i64 0] 110) = W4 at HMa HX ⊢
          generalize w4.heap.size = y at HT HX ⊢
          have HY := Lib.hid (show sp ≠ y ∧ w.heap.size + 1 ≤ y ∧ y ≠ q from by have h1 := HX.out.lt.1; have h2 := HT.out.q; omega)
          have HE := Lib.hid (fun i (hi : i < n) => HOk.out.1.len i (by rw [HN.out]; exact hi))
          have e1 := HE.out x hx
          have p0 : W4.cell? ⟨q, 0, none⟩ = some (.slice (some ⟨bP, 0, none⟩) n c) := by rw [← HN.out]; exact HMa.out.box.cell 0 (by omega)
          have pl := HMa.out.box.lt.2
          have y0 : W4.cell? ⟨y, 0, none⟩ = some (.int .i64 (x : Int)) := HX.out.cell 0 (by omega)
          have yl := HX.out.lt.2
          have g0 := HMa.out.piece (i := x) (by rw [HN.out]; exact hx)
          obtain ⟨Lx, hLx⟩ : ∃ l, p.len x = l := ⟨_, rfl⟩
          have HLx := Lib.hid hLx
          rw [hLx] at e1 g0
          clear hLx
          go_upto_region 11 with (go_at_call 36; refine (pick_any w0 _ sp nc cc (A + 172 + 10 * d + 2) ac (Lx : Int) HC.out HMa.out.bel HMa.out.src (by omega) (by omega)).mono ?_; rintro e w5 ⟨y1A, rfl, y1a, y1b, hs5, hg5⟩; have HX5 := Lib.hid (HX.out.grown hg5 (fun e => HY.out.1 (Option.some.inj e))); have t1 := HX5.out.cell 1 (by omega); have t2 := HX5.out.fr 1; have t3 := HX5.out.lt.2)
          obtain ⟨y1, rfl⟩ : ∃ k : Nat, y1A = (k : Int) := ⟨y1A.toNat, by omega⟩
          have hy1 : y1 < Lx := by omega
          have HMb := Lib.hid ((HMa.out.drawn hp1 hp2 hs5 hg5).off hp1 hp2 HT.out (setCell_grown w5 y 1 (.int .i64 (y1 : Int))))
          have HXb := Lib.hid (show Obx (w5.setCell ⟨y, 1, none⟩ (.int .i64 (y1 : Int))) (w.heap.size + 1) y 110 4 [.int .i64 (x : Int), .int .i64 (y1 : Int), .int .i64 0, .int .i64 0] from HX5.out.set 1 (.int .i64 (y1 : Int)))
          clear hs5 hg5 p0 pl t1 t2 t3 HX5 HMa HX y1a y1b
          clear y0 yl g0
          generalize w5.setCell ⟨y, 1, none⟩ (.int .i64 (y1 : Int)) = W5 at HMb HXb ⊢
          have p0 : W5.cell? ⟨q, 0, none⟩ = some (.slice (some ⟨bP, 0, none⟩) n c) := by rw [← HN.out]; exact HMb.out.box.cell 0 (by omega)
          have pl := HMb.out.box.lt.2
          go_upto_region 12 with (go_at_call 36; refine (pick_any w0 _ sp nc cc (A + 172 + 10 * d + 4) ac (n : Int) HC.out HMb.out.bel HMb.out.src (by omega) (by omega)).mono ?_; rintro e w6 ⟨uA, rfl, ua, ub, hs5, hg5⟩; have HX5 := Lib.hid (HXb.out.grown hg5 (fun e => HY.out.1 (Option.some.inj e))); have t1 := HX5.out.cell 2 (by omega); have t2 := HX5.out.fr 2; have t3 := HX5.out.lt.2)
          obtain ⟨u, rfl⟩ : ∃ k : Nat, uA = (k : Int) := ⟨uA.toNat, by omega⟩
          have hu : u < n := by omega
          have HMc := Lib.hid ((HMb.out.drawn hp1 hp2 hs5 hg5).off hp1 hp2 HT.out (setCell_grown w6 y 2 (.int .i64 (u : Int))))
          have HXc := Lib.hid (show Obx (w6.setCell ⟨y, 2, none⟩ (.int .i64 (u : Int))) (w.heap.size + 1) y 110 4 [.int .i64 (x : Int), .int .i64 (y1 : Int), .int .i64 (u : Int), .int .i64 0] from HX5.out.set 2 (.int .i64 (u : Int)))
          clear hs5 hg5 p0 pl t1 t2 t3 HX5 HMb HXb ua ub
          generalize w6.setCell ⟨y, 2, none⟩ (.int .i64 (u : Int)) = W6 at HMc HXc ⊢
          have p0 : W6.cell? ⟨q, 0, none⟩ = some (.slice (some ⟨bP, 0, none⟩) n c) := by rw [← HN.out]; exact HMc.out.box.cell 0 (by omega)
          have pl := HMc.out.box.lt.2
          have hu' : (u : Int) < (n : Int) := by omega
          have e2 := HE.out u hu
          have y0 : W6.cell? ⟨y, 2, none⟩ = some (.int .i64 (u : Int)) := HXc.out.cell 2 (by omega)
          have yl := HXc.out.lt.2
          have g0 := HMc.out.piece (i := u) (by rw [HN.out]; exact hu)
          obtain ⟨Lu, hLu⟩ : ∃ l, p.len u = l := ⟨_, rfl⟩
          have HLu := Lib.hid hLu
          rw [hLu] at e2 g0
          clear hLu
          go_upto_region 13 with (go_at_call 36; refine (pick_any w0 _ sp nc cc (A + 172 + 10 * d + 6) ac (Lu : Int) HC.out HMc.out.bel HMc.out.src (by omega) (by omega)).mono ?_; rintro e w7 ⟨vA, rfl, va, vb, hs5, hg5⟩; have HX5 := Lib.hid (HXc.out.grown hg5 (fun e => HY.out.1 (Option.some.inj e))); have t1 := HX5.out.cell 3 (by omega); have t2 := HX5.out.fr 3; have t3 := HX5.out.lt.2)
          obtain ⟨v, rfl⟩ : ∃ k : Nat, vA = (k : Int) := ⟨vA.toNat, by omega⟩
          have hv : v < Lu := by omega
          have HMd := Lib.hid ((HMc.out.drawn hp1 hp2 hs5 hg5).off hp1 hp2 HT.out (setCell_grown w7 y 3 (.int .i64 (v : Int))))
          have HXd := Lib.hid (show Obx (w7.setCell ⟨y, 3, none⟩ (.int .i64 (v : Int))) (w.heap.size + 1) y 110 4 [.int .i64 (x : Int), .int .i64 (y1 : Int), .int .i64 (u : Int), .int .i64 (v : Int)] from HX5.out.set 3 (.int .i64 (v : Int)))
          clear hs5 hg5 p0 pl t1 t2 t3 HX5 HMc HXc va vb
          clear y0 yl g0
          generalize w7.setCell ⟨y, 3, none⟩ (.int .i64 (v : Int)) = W7 at HMd HXd ⊢
          obtain ⟨m, hm⟩ : ∃ m, p.m = m := ⟨_, rfl⟩
          have HMm := Lib.hid hm
          have HAdd := Lib.hid (addSeam_with p HOk.out.1 (by have := HOk.out.2; omega) (some ⟨bP, 0, none⟩) aS c cS 0 ⟨by omega, by omega⟩ (x, y1) (u, v) ⟨by show x < p.n; rw [HN.out]; exact hx, by show y1 < p.len x; rw [HLx.out]; exact hy1⟩ ⟨by show u < p.n; rw [HN.out]; exact hu, by show v < p.len u; rw [HLu.out]; exact hv⟩ g cE (w.heap.size + 1) W7 HMd.out.own (fun q X hq h => HOwn.out p HOk.out.1 (some ⟨bP, 0, none⟩) aS c cS 0 g cE (w.heap.size + 1) q X hq h))
          have HMn := Lib.hid (show Obx W7 (w.heap.size + 1) q 41 3 [.slice (some ⟨bP, 0, none⟩) n c, .slice aS m cS, .int .i64 0] by rw [← HN.out, ← HMm.out]; exact HMd.out.box)
          rw [HN.out, hm] at HAdd
          clear hm
          obtain ⟨⟨p0, p1, p2⟩, _, pl⟩ := HMn.out.three
          obtain ⟨y00, y01, y02, y03⟩ := HXd.out.four
          have yl := HXd.out.lt.2
          go_wp2_with fail
          refine HAdd.out.mono ?_
          rintro e w8 ⟨hb8, (⟨cd, rfl, hcd⟩ | ⟨aP', cP', aS', cS', g', cE', rfl, hok', hown'⟩)⟩
          · clear p0 p1 p2 pl y00 y01 y02 y03 yl
            have HMe := Lib.hid ((HMd.out.below hb8).below ((Bel.refl w8).alloc (.cells #[.slice none 0 0, .slice none 0 0, .int .i64 0] 41)).1)
            clear hb8
            go_wp2_with fail
            go_roundw
            case rel => exact ⟨k - 1, d + 1, by omega, by first | go_num | (congr 1; omega), p, some ⟨bP, 0, none⟩, c, aS, cS, g, cE, Lib.hid ⟨HOk.out.1, by have := HOk.out.2; omega⟩, Lib.hid (HMe.out.moreA (by omega))⟩
            case measure => simp [intOf]; omega
          · clear p0 p1 p2 pl y00 y01 y02 y03 yl
            have HOk' := Lib.hid hok'
            have hba := ((Bel.refl w8).alloc (.cells #[.slice aP' p.n cP', .slice aS' (p.m + 1) cS', .int .i64 0] 41)).1
            have HM8 := Lib.hid ((HMd.out.below hb8).below hba)
            have HO8 := Lib.hid (hown'.below hba)
            have HX8 := Lib.hid ((HXd.out.below hb8).below hba)
            have HX7 := Lib.hid (Obx.new w8 (w.heap.size + 1) 41 3 #[.slice aP' p.n cP', .slice aS' (p.m + 1) cS', .int .i64 0] (by have h1 := hb8.size; have h2 := HXd.out.lt; omega) rfl)
            have HQ7 := Lib.hid (show q < W7.heap.size ∧ w.heap.size + 1 ≤ W7.heap.size ∧ y < W7.heap.size ∧ q < w8.heap.size ∧ W7.heap.size ≤ w8.heap.size ∧ DTop q w8.heap.size (p.add (x, y1) (u, v)) aP' cP' aS' cS' g' from ⟨HMd.out.box.lt.2, by have h1 := HMd.out.box.lt; omega, HXd.out.lt.2, Nat.lt_of_lt_of_le HMd.out.box.lt.2 hb8.size, hb8.size, ⟨Nat.lt_of_lt_of_le HMd.out.box.lt.2 hb8.size, fun b hb => (own_block hown'.pcs.row hb).2, fun i hi => (own_block (b := g' i) (hown'.pcs.eds i hi) rfl).2, fun b hb => (own_block hown'.sms hb).2⟩⟩)
            clear hb8 hok' hown' hba
            go_wp2_with fail
            generalize w8.alloc (.cells #[.slice aP' p.n cP', .slice aS' (p.m + 1) cS', .int .i64 0] 41) = W8 at HM8 HO8 HX8 HX7 ⊢
            generalize w8.heap.size = q7 at HX7 HQ7 ⊢
            refine (one_any w0 W8 sp nc cc (A + 172 + 10 * d + 8) ac 2 HC.out HM8.out.bel HM8.out.src (by omega) (by omega)).mono ?_
            rintro e w9 ⟨bt, rfl, hs9, hg9⟩
            have HM9 := Lib.hid (HM8.out.drawn hp1 hp2 hs9 hg9)
            have HO9a := Lib.hid (HO8.out.grown hg9 (by have := HQ7.out.2.1; omega))
            have HX9 := Lib.hid (HX8.out.grown hg9 (fun e => HY.out.1 (Option.some.inj e)))
            have HX79 := Lib.hid (HX7.out.grown hg9 (fun e => by have h1 : sp = q7 := Option.some.inj e; have h2 := HQ7.out; omega))
            clear hs9 hg9 HM8 HO8 HX8 HX7
            cases bt
            · have HOk9 := HOk'
              have HO9 := Lib.hid HO9a.out
              obtain ⟨⟨k0, k1, k2⟩, _, kl⟩ := HX79.out.three
              obtain ⟨⟨r0, r1, r2⟩, ⟨v0, v1, v2⟩, rl⟩ := HM9.out.box.three
              have q7n : ¬ q7 = q := by have := HQ7.out; omega
              have q7m : ¬ q = q7 := by omega
              go_wp2_with fail
              go_roundw
              case rel => exact ⟨k - 1, d + 1, by omega, by first | go_num | (congr 1; omega), p.add (x, y1) (u, v), aP', cP', aS', cS', g', cE', Lib.hid ⟨HOk9.out, by show p.m + 1 ≤ d + 1; have := HOk.out.2; omega⟩, Lib.hid ((HM9.out.moreA (show A + 172 + 10 * d + 8 + 2 ≤ A + 172 + 10 * (d + 1) by omega)).next (op' := 0) hp1 hp2 HO9.out HQ7.out.1 HQ7.out.2.1)⟩
              case measure => simp [intOf]; omega
            · obtain ⟨bQ, rfl⟩ : ∃ b, aP' = some ⟨b, 0, none⟩ := by
                rcases own_form HO9a.out.pcs.row with h0 | h0
                · exact absurd HOk'.out.n1 (by omega)
                · exact h0
              have hxn : x < p.n := by rw [HN.out]; exact hx
              have hun : u < p.n := by rw [HN.out]; exact hu
              have hxn' : (x : Int) < (p.n : Int) := by omega
              have hun' : (u : Int) < (p.n : Int) := by omega
              have hy' : (y1 : Int) < (p.len x : Int) := by rw [HLx.out]; omega
              have hv' : (v : Int) < (p.len u : Int) := by rw [HLu.out]; omega
              have cx : w9.cell? ⟨bQ, x * 2 + 1, none⟩ = some (.slice (some ⟨g' x, 0, none⟩) (p.len x) (cE' x)) := (HO9a.out.pcs.row.cellAt (x * 2 + 1) (by show x * 2 + 1 < p.n * 2; omega)).trans (pcC_at (p.add (x, y1) (u, v)) g' cE' p.n x hxn).2
              have cu : w9.cell? ⟨bQ, u * 2 + 1, none⟩ = some (.slice (some ⟨g' u, 0, none⟩) (p.len u) (cE' u)) := (HO9a.out.pcs.row.cellAt (u * 2 + 1) (by show u * 2 + 1 < p.n * 2; omega)).trans (pcC_at (p.add (x, y1) (u, v)) g' cE' p.n u hun).2
              have hex := HO9a.out.pcs.eds x hxn
              have heu := HO9a.out.pcs.eds u hun
              have ex : w9.cell? ⟨g' x, y1, none⟩ = some (.int .i64 (p.val x y1)) := (hex.cellAt y1 (by show y1 < p.len x * 1; rw [HLx.out]; omega)).trans (show _ = some (Value.int .i64 (p.val x y1)) from by simp [edL, Pat.add, HLx.out, hy1])
              have eu : w9.cell? ⟨g' u, v, none⟩ = some (.int .i64 (p.val u v)) := (heu.cellAt v (by show v < p.len u * 1; rw [HLu.out]; omega)).trans (show _ = some (Value.int .i64 (p.val u v)) from by simp [edL, Pat.add, HLu.out, hv])
              have ef : w9.frozen? ⟨g' u, v, none⟩ = false := heu.frozenAt v
              have hgu : W7.heap.size ≤ g' u ∧ g' u < w9.heap.size := own_block (b := g' u) heu rfl
              have el := hgu.2
              have gu7 : g' u < q7 := HQ7.out.2.2.2.2.2.eds u hun
              have HM10 := Lib.hid (HM9.out.off hp1 hp2 (HT.out.mono (show y ≤ g' u by have := HQ7.out; omega)) (setCell_grown w9 (g' u) v (.int .i64 (p.val x y1))))
              have HX10 := Lib.hid (HX79.out.grown (setCell_grown w9 (g' u) v (.int .i64 (p.val x y1))) (fun e => by have h1 : g' u = q7 := Option.some.inj e; omega))
              have HO10 := Lib.hid (HO9a.out.setVal (e := (u, v)) (z := p.val x y1) ⟨hun, by show v < p.len u; rw [HLu.out]; exact hv⟩)
              have HOk9 := Lib.hid (HOk'.out.setVal (e := (u, v)) (z := p.val x y1) (HOk.out.1.val x y1 hxn (by rw [HLx.out]; exact hy1)))
              obtain ⟨⟨k0, k1, k2⟩, _, kl⟩ := HX79.out.three
              obtain ⟨y00, y01, y02, y03⟩ := HX9.out.four
              have yl := HX9.out.lt.2
              have HX9g := Lib.hid (HX9.out.grown (setCell_grown w9 (g' u) v (.int .i64 (p.val x y1))) (fun e => by have h1 : g' u = y := Option.some.inj e; have := HQ7.out; omega))
              clear hex heu HO9a HM9 HX79 HX9
              go_upto_region 16 with fail
              have hK : (w9.setCell ⟨g' u, v, none⟩ (.int .i64 (p.val x y1))).drew.cell? ⟨q7, 0, none⟩ = some (.slice (some ⟨bQ, 0, none⟩) p.n cP') ∧ (w9.setCell ⟨g' u, v, none⟩ (.int .i64 (p.val x y1))).drew.cell? ⟨y, 0, none⟩ = some (.int .i64 (x : Int)) ∧ (w9.setCell ⟨g' u, v, none⟩ (.int .i64 (p.val x y1))).drew.cell? ⟨y, 1, none⟩ = some (.int .i64 (y1 : Int)) ∧ (w9.setCell ⟨g' u, v, none⟩ (.int .i64 (p.val x y1))).drew.cell? ⟨y, 2, none⟩ = some (.int .i64 (u : Int)) ∧ (w9.setCell ⟨g' u, v, none⟩ (.int .i64 (p.val x y1))).drew.cell? ⟨y, 3, none⟩ = some (.int .i64 (v : Int)) ∧
                  (w9.setCell ⟨g' u, v, none⟩ (.int .i64 (p.val x y1))).drew.cell? ⟨bQ, x * 2 + 1, none⟩ = some (.slice (some ⟨g' x, 0, none⟩) (p.len x) (cE' x)) ∧ (w9.setCell ⟨g' u, v, none⟩ (.int .i64 (p.val x y1))).drew.cell? ⟨bQ, u * 2 + 1, none⟩ = some (.slice (some ⟨g' u, 0, none⟩) (p.len u) (cE' u)) ∧ (w9.setCell ⟨g' u, v, none⟩ (.int .i64 (p.val x y1))).drew.cell? ⟨g' x, y1, none⟩ = some (.int .i64 (p.val x y1)) := by
                obtain ⟨a0, a1, a2, a3⟩ := HX9g.out.four
                have hrow := HO10.out.pcs.row
                have hed := HO10.out.pcs.eds x hxn
                refine ⟨HX10.out.cell 0 (by omega), a0, a1, a2, a3, (hrow.cellAt (x * 2 + 1) (by show x * 2 + 1 < p.n * 2; omega)).trans (pcC_at _ g' cE' p.n x hxn).2, (hrow.cellAt (u * 2 + 1) (by show u * 2 + 1 < p.n * 2; omega)).trans (pcC_at _ g' cE' p.n u hun).2, (hed.cellAt y1 (by show y1 < p.len x * 1; rw [HLx.out]; omega)).trans ?_⟩
                simp [edL, Pat.setVal, Pat.add, HLx.out, hy1]
              clear HX9g
              go_region_held3 (fun X => X.cell? ⟨q7, 0, none⟩ = some (.slice (some ⟨bQ, 0, none⟩) p.n cP') ∧ X.cell? ⟨y, 0, none⟩ = some (.int .i64 (x : Int)) ∧ X.cell? ⟨y, 1, none⟩ = some (.int .i64 (y1 : Int)) ∧ X.cell? ⟨y, 2, none⟩ = some (.int .i64 (u : Int)) ∧ X.cell? ⟨y, 3, none⟩ = some (.int .i64 (v : Int)) ∧
                  X.cell? ⟨bQ, x * 2 + 1, none⟩ = some (.slice (some ⟨g' x, 0, none⟩) (p.len x) (cE' x)) ∧ X.cell? ⟨bQ, u * 2 + 1, none⟩ = some (.slice (some ⟨g' u, 0, none⟩) (p.len u) (cE' u)) ∧ X.cell? ⟨g' x, y1, none⟩ = some (.int .i64 (p.val x y1))) (first | (with_reducible exact hK) | go_keep) (fail)
              clear hK cx cu ex eu ef el k0 k1 k2 kl y00 y01 y02 y03 yl
              have HM11 := Lib.hid (HM10.out.below (Below.refl _ _).drew)
              have HX11 := Lib.hid (HX10.out.below (Below.refl _ _).drew)
              have HO11 := Lib.hid (HO10.out.below (Below.refl _ _).drew)
              clear HM10 HX10 HO10 gu7 hgu hxn hun hxn' hun' hy' hv'
              generalize (w9.setCell ⟨g' u, v, none⟩ (.int .i64 (p.val x y1))).drew = W10 at HM11 HX11 HO11 ⊢
              have HO9 := HO11
              obtain ⟨⟨k0, k1, k2⟩, _, kl⟩ := HX11.out.three
              obtain ⟨⟨r0, r1, r2⟩, ⟨v0, v1, v2⟩, rl⟩ := HM11.out.box.three
              have q7n : ¬ q7 = q := by have := HQ7.out; omega
              have q7m : ¬ q = q7 := by omega
              go_wp2_with fail
              go_roundw
              case rel => exact ⟨k - 1, d + 1, by omega, by first | go_num | (congr 1; omega), (p.add (x, y1) (u, v)).setVal (u, v) (p.val x y1), some ⟨bQ, 0, none⟩, cP', aS', cS', g', cE', Lib.hid ⟨HOk9.out, by show p.m + 1 ≤ d + 1; have := HOk.out.2; omega⟩, Lib.hid ((HM11.out.moreA (show A + 172 + 10 * d + 8 + 2 ≤ A + 172 + 10 * (d + 1) by omega)).next (op' := 0) hp1 hp2 HO9.out HQ7.out.1 HQ7.out.2.1)⟩
              case measure => simp [intOf]; omega
        · obtain rfl : k = 0 := by omega
          go_wp2_with fail
          refine (l08Openings_any p HOk.out.1 a aS c cS 0 q wr HM.out.pbox (HM.out.own.at_ HOk.out.1)).mono ?_
          rintro e wA ⟨gO, cO, kO, rfl, hkO, hbO⟩
          have HMA := Lib.hid (HM.out.below hbO)
          clear hbO HM
          obtain ⟨⟨k0, k1, k2⟩, ⟨_, _, f2⟩, kl⟩ := HMA.out.box.three
          go_wp2_with fail
          have HMB := Lib.hid (HMA.out.setOp (op' := (kO : Int)) hp1 hp2)
          clear k0 k1 k2 f2 kl HMA
          generalize wA.setCell ⟨q, 2, none⟩ (.int .i64 (kO : Int)) = WA at HMB ⊢
          refine (one_any w0 WA sp nc cc (A + 172 + 10 * d) ac 4 HC.out HMB.out.bel HMB.out.src (by omega) (by omega)).mono ?_
          rintro e wB ⟨bt, rfl, hsB, hgB⟩
          have HMC := Lib.hid (HMB.out.drawn hp1 hp2 hsB hgB)
          clear hsB hgB HMB
          cases bt
          · obtain ⟨⟨k0, k1, k2⟩, _, kl⟩ := HMC.out.box.three
            obtain ⟨⟨r0, r1, r2⟩, ⟨v0, v1, v2⟩, rl⟩ := HMC.out.res.three
            obtain ⟨⟨z0, z1, z2⟩, _, _⟩ := (HMC.out.res.set3 (a := .slice a p.n c) (b := .slice aS p.m cS) (c := .int .i64 (kO : Int))).three
            have qn : ¬ q = w.heap.size := by have := HMC.out.box.lt.1; omega
            have qm : ¬ w.heap.size = q := by omega
            go_wp2_with fail
            refine bodyPost_ret (v := .agg #[.slice a p.n c, .slice aS p.m cS, .int .i64 (kO : Int)]) (by simp [results, Tryz.results30, go_sem, z0, z1, z2]) rfl ?_
            have hM := HMC.out
            have hd : d ≤ 8 := by omega
            have hg := set3_grown wB w.heap.size (.slice a p.n c) (.slice aS p.m cS) (.int .i64 (kO : Int))
            exact ⟨p, a, c, aS, cS, _, g, cE, rfl, HOk.out.1, ⟨by omega, by omega⟩, (hM.own.grown hg (by omega)).base (by omega), (hM.src.grown hg (fun e => by have h1 : w.heap.size = sp := Option.some.inj e; omega)).more (by omega), grown_new_l hM.gr hg (Nat.le_refl _), hM.bel.grown hg (fun k e => by have h1 : w.heap.size = k := Option.some.inj e; omega)⟩
          · go_wp2_with fail
            refine (pick_any w0 wB sp nc cc (A + 172 + 10 * d + 2) ac 4 HC.out HMC.out.bel HMC.out.src (by omega) (by omega)).mono ?_
            rintro e wC ⟨oq, rfl, oa, ob, hsC, hgC⟩
            have o3 : oq ≤ 3 := by omega
            have HMD := Lib.hid (HMC.out.drawn hp1 hp2 hsC hgC)
            clear hsC hgC HMC ob
            obtain ⟨⟨j0, j1, j2⟩, ⟨_, _, f2⟩, jl⟩ := HMD.out.box.three
            have HMF := Lib.hid (HMD.out.setOp (op' := oq) hp1 hp2)
            go_upto_region 21 with fail
            clear j0 j1 j2 f2 jl HMD
            generalize wC.setCell ⟨q, 2, none⟩ (.int .i64 oq) = WC at HMF ⊢
            obtain ⟨⟨k0, k1, k2⟩, _, kl⟩ := HMF.out.box.three
            obtain ⟨⟨r0, r1, r2⟩, ⟨v0, v1, v2⟩, rl⟩ := HMF.out.res.three
            obtain ⟨⟨z0, z1, z2⟩, _, _⟩ := (HMF.out.res.set3 (a := .slice a p.n c) (b := .slice aS p.m cS) (c := .int .i64 oq)).three
            have qn : ¬ q = w.heap.size := by have := HMF.out.box.lt.1; omega
            have qm : ¬ w.heap.size = q := by omega
            go_wp2_with fail
            refine bodyPost_ret (v := .agg #[.slice a p.n c, .slice aS p.m cS, .int .i64 oq]) (by simp [results, Tryz.results30, go_sem, z0, z1, z2]) rfl ?_
            have hM := HMF.out
            have hd : d ≤ 8 := by omega
            have hg := set3_grown WC w.heap.size (.slice a p.n c) (.slice aS p.m cS) (.int .i64 oq)
            exact ⟨p, a, c, aS, cS, _, g, cE, rfl, HOk.out.1, ⟨by omega, by omega⟩, (hM.own.grown hg (by omega)).base (by omega), (hM.src.grown hg (fun e => by have h1 : w.heap.size = sp := Option.some.inj e; omega)).more (by omega), grown_new_l hM.gr hg (Nat.le_refl _), hM.bel.grown hg (fun k e => by have h1 : w.heap.size = k := Option.some.inj e; omega)⟩
end Go.Proofs.YthemlamdchcicaaGreatDoor
