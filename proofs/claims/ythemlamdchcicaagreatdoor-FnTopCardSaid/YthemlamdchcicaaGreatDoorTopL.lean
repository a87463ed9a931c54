/-
  The law FnTop: it returns true for all arguments (the walk).
-/
import Derived.Test.YthemlamdchcicaaGreatDoorGBest
import Derived.Test.YthemlamdchcicaaGreatDoorGPatT
import Derived.Test.YthemlamdchcicaaGreatDoorGBase
import Derived.Test.YthemlamdchcicaaGreatDoorTopA2Fit
import Derived.Test.YthemlamdchcicaaGreatDoorPatD3
import Derived.Test.YthemlamdchcicaaGreatDoorWorth
import Derived.Test.YthemlamdchcicaaGreatDoorHideK
import Derived.Deep.DeepCutAuto
import Derived.Lib.QuietBelow
import Derived.BigQuiet
namespace Go.Proofs.YthemlamdchcicaaGreatDoor
open Go.ChangeShapes Go.WideShapes Go.ChangeAt Go.RowKit Go.Deep Go.Shelf Go.Sort

theorem code_at {w : World} {a : Option Addr} {n : Nat} {zs : List Int} (l : zs.length = n) (h : CellsAt w a (zs.map (Value.int .u8))) (hw : ∀ z ∈ zs, (Lit.int .u8 z).wf = true) (hn : n ≤ 1048576) : CodeAt w a n :=
  ⟨zs, h, l, fun z hz => by
    have h := hw z hz
    have e1 : IntKind.u8.min = 0 := by rfl
    have e2 : IntKind.u8.max = 255 := by rfl
    simp [Lit.wf, e1, e2] at h; omega, hn⟩
theorem four_of {zs : List Int} (h : zs.length = 4) : ∃ a b c d, zs = [a, b, c, d] := by
  match zs, h with
  | [a, b, c, d], _ => exact ⟨a, b, c, d, rfl⟩
set_option maxRecDepth 100000 in
/-- What the law's walk needs of one last. -/
theorem fitCost_at (xs : List Lst) (hs : (xs.map Lst.name).Sublist names7) (hx : ∀ x ∈ xs, x.Ok) (fl fb fi fh mn mx gi w0 w1 w2 w3 : Int) (aw : Option Addr) (cw : Nat) (w : World)
    (hf : ∀ z ∈ [fl, fb, fi, fh], 500 ≤ z ∧ z ≤ 5000) (hk : FitOk mn mx gi [w0, w1, w2, w3]) (hc : CellsAt w aw ([w0, w1, w2, w3].map (Value.int .i64))) (k : Nat) (hkn : k < xs.length) :
    ∃ (s : ByteArray) (vl vb vi vh vq : Int), ((lsC xs)[k * 6]? = some (.string s) ∧ (lsC xs)[k * 6 + 1]? = some (.int .i64 vl) ∧ (lsC xs)[k * 6 + 2]? = some (.int .i64 vb) ∧ (lsC xs)[k * 6 + 3]? = some (.int .i64 vi) ∧ (lsC xs)[k * 6 + 4]? = some (.int .i64 vh) ∧ (lsC xs)[k * 6 + 5]? = some (.int .i64 vq))
      ∧ (∀ W, Below w.heap.size w W → Calls Tryz.prog 9 #[.agg #[.string s, .int .i64 vl, .int .i64 vb, .int .i64 vi, .int .i64 vh, .int .i64 vq], .agg #[.int .i64 fl, .int .i64 fb, .int .i64 fi, .int .i64 fh], .agg #[.int .i64 mn, .int .i64 mx, .int .i64 gi, .slice aw 4 cw]] W
        fun e w' => e = .returned (.tuple #[.int .i64 (if okN xs fl fb fi fh mn mx gi k = true then costN xs fl fb fi fh mn w0 w1 w2 w3 k else 0), .int .i64 (if okN xs fl fb fi fh mn mx gi k = true then 0 else 10)]) ∧ Below W.heap.size W w') := by
  have hg : xs.getD k lst0 = xs[k] := by rw [List.getD_eq_getElem?_getD, List.getElem?_eq_getElem hkn]; rfl
  refine ⟨_, _, _, _, _, _, lsC_at xs k hkn, fun W hb => ?_⟩
  unfold costN okN Lst.costAt Lst.okAt
  rw [hg]
  exact topFitCost_any xs[k].name xs[k].l xs[k].b xs[k].i xs[k].h xs[k].q fl fb fi fh mn mx gi w0 w1 w2 w3 aw cw W (names_size hs hkn) (lst_valid hs hx hkn) hf hk (hc.below hb)
set_option maxRecDepth 100000 in
set_option maxHeartbeats 12800000 in
theorem fnTop_walk (w : World) (a0 : Option Addr) (n0 c0 : Nat) (z0 : List Int) (l0 : z0.length = n0) (_ : n0 ≤ maxLen) (s0 : CellsAt w a0 (z0.map (Value.int .u8))) (w0 : ∀ z ∈ z0, (Lit.int .u8 z).wf = true)
    (a1 : Option Addr) (n1 c1 : Nat) (z1 : List Int) (l1 : z1.length = n1) (_ : n1 ≤ maxLen) (s1 : CellsAt w a1 (z1.map (Value.int .u8))) (w1 : ∀ z ∈ z1, (Lit.int .u8 z).wf = true) :
    Calls Tryz.prog 3 #[.slice a0 n0 c0, .slice a1 n1 c1] w fun e w' => e = .returned (.bool true) ∧ Below w.heap.size w w' := by
  by_cases g0 : n0 ≤ 3000
  · by_cases g1 : n1 ≤ 3000
    · have HC0 := Lib.hid (code_at l0 s0 w0 (by omega))
      have HC1 := Lib.hid (code_at l1 s1 w1 (by omega))
      clear l0 s0 w0 l1 s1 w1
      go_enter Tryz.func3, Tryz.ntmps3
      go_wp2_with (go_at_call 4; go_in)
      refine (a2Foot_any w n0 c0 a0 HC0.out).mono ?_
      rintro e w1 ⟨fl, fb, fi, fh, rfl, hfd, hb1⟩
      have HFd := Lib.hid hfd
      have HB1 := Lib.hid ((Bel.of hb1).alloc (.cells #[.int .i64 fl, .int .i64 fb, .int .i64 fi, .int .i64 fh] 25))
      have HF1 := Lib.hid (Obx.new w1 w.heap.size 25 4 #[.int .i64 fl, .int .i64 fb, .int .i64 fi, .int .i64 fh] hb1.size rfl)
      clear hfd hb1
      go_upto_region 4 with fail
      generalize w1.alloc (.cells #[.int .i64 fl, .int .i64 fb, .int .i64 fi, .int .i64 fh] 25) = W1 at HB1 HF1 ⊢
      generalize w1.heap.size = qf at HF1 ⊢
      obtain ⟨f0, f1, f2, f3⟩ := HF1.out.four0
      go_wp2_with fail
      refine (a2Lasts_any W1 n1 c1 a1 fl fb fi fh (HC1.out.below HB1.out.1) HFd.out).mono ?_
      rintro e w2 ⟨ao, co, xs, rfl, hxs, hxo, hr2, hb2⟩
      have HXs := Lib.hid hxs
      have HXo := Lib.hid hxo
      have HR2 := Lib.hid (own_base hr2 HB1.out.2)
      have HB2 := Lib.hid (HB1.out.step hb2)
      have HF2 := Lib.hid (HF1.out.below hb2)
      clear hxs hxo hr2 hb2 f0 f1 f2 f3 HF1 HB1
      have h7 := names_len HXs.out
      obtain ⟨n, hn⟩ : ∃ n, xs.length = n := ⟨_, rfl⟩
      have HN := Lib.hid hn
      rw [hn] at h7 HR2 ⊢
      clear hn
      go_wp2_with fail
      refine (a2Fit_any w2 n1 c1 a1 (HC1.out.below HB2.out.1)).mono ?_
      rintro e w3 ⟨mn, mx, gi, aw, cw, zs, rfl, hfo, hw3, hb3⟩
      obtain ⟨z0, z1, z2, z3, rfl⟩ := four_of hfo.2.2.1
      have HFo := Lib.hid hfo
      have HB3 := Lib.hid ((HB2.out.step hb3).alloc (.cells #[.int .i64 mn, .int .i64 mx, .int .i64 gi, .slice aw 4 cw] 31))
      have HF3 := Lib.hid ((HF2.out.below hb3).alloc (.cells #[.int .i64 mn, .int .i64 mx, .int .i64 gi, .slice aw 4 cw] 31))
      have HR3 := Lib.hid (own_below (own_below HR2.out hb3) ((Below.refl _ w3).alloc (Nat.le_refl _) (.cells #[.int .i64 mn, .int .i64 mx, .int .i64 gi, .slice aw 4 cw] 31)))
      have HW3 := Lib.hid ((CellsAt.of_own hw3).below ((Below.refl _ w3).alloc (Nat.le_refl _) (.cells #[.int .i64 mn, .int .i64 mx, .int .i64 gi, .slice aw 4 cw] 31)))
      have HT3 := Lib.hid (Obx.new w3 w.heap.size 31 4 #[.int .i64 mn, .int .i64 mx, .int .i64 gi, .slice aw 4 cw] (HB2.out.step hb3).2 rfl)
      clear hfo hw3 hb3 HB2 HF2 HR2
      go_upto_region 6 with fail
      generalize w3.alloc (.cells #[.int .i64 mn, .int .i64 mx, .int .i64 gi, .slice aw 4 cw] 31) = W3 at HB3 HF3 HR3 HW3 HT3 ⊢
      generalize w3.heap.size = qw at HT3 ⊢
      have hfr : ∀ z ∈ [fl, fb, fi, fh], 500 ≤ z ∧ z ≤ 5000 := by
        obtain ⟨a1, a2, a3, a4, a5, a6, a7, a8⟩ := HFd.out
        intro z hz
        simp only [List.mem_cons, List.not_mem_nil, or_false] at hz
        rcases hz with rfl | rfl | rfl | rfl <;> omega
      have HBest := Lib.hid (bestLast_any xs HXs.out HXo.out ao co w.heap.size fl fb fi fh mn mx gi z0 z1 z2 z3 aw cw W3 (by rw [HN.out]; exact HR3.out) hfr HFo.out HW3.out)
      have HCost := Lib.hid (fitCost_at xs HXs.out HXo.out fl fb fi fh mn mx gi z0 z1 z2 z3 aw cw W3 hfr HFo.out HW3.out)
      rw [HN.out] at HBest HCost
      generalize okN xs fl fb fi fh mn mx gi = ok at HBest HCost
      generalize costN xs fl fb fi fh mn z0 z1 z2 z3 = cost at HBest HCost
      have hll := lsC_length xs
      rw [HN.out] at hll
      generalize lsC xs = ls at HR3 HCost hll
      obtain ⟨f0, f1, f2, f3⟩ := HF3.out.four0
      obtain ⟨t0, t1, t2, t3⟩ := HT3.out.four0
      clear hfr HXs HXo HFo HW3 HFd HN
      clear xs
      go_wp2_with fail
      refine HBest.out.mono ?_
      rintro e w4 ⟨v, c, rfl, hso, hb4⟩
      have HSo := Lib.hid hso
      have HB4 := Lib.hid (HB3.out.step hb4)
      have HF4 := Lib.hid (HF3.out.below hb4)
      have HT4 := Lib.hid (HT3.out.below hb4)
      have HR4 := Lib.hid (own_below HR3.out hb4)
      have HCost4 := Lib.hid (fun k (hk : k < n) => by
        obtain ⟨s, vl, vb, vi, vh, vq, hc, h⟩ := HCost.out k hk
        exact (show ∃ (s : ByteArray) (vl vb vi vh vq : Int), ((ls)[k * 6]? = some (.string s) ∧ (ls)[k * 6 + 1]? = some (.int .i64 vl) ∧ (ls)[k * 6 + 2]? = some (.int .i64 vb) ∧ (ls)[k * 6 + 3]? = some (.int .i64 vi) ∧ (ls)[k * 6 + 4]? = some (.int .i64 vh) ∧ (ls)[k * 6 + 5]? = some (.int .i64 vq))
      ∧ (∀ W, Below w4.heap.size w4 W → Calls Tryz.prog 9 #[.agg #[.string s, .int .i64 vl, .int .i64 vb, .int .i64 vi, .int .i64 vh, .int .i64 vq], .agg #[.int .i64 fl, .int .i64 fb, .int .i64 fi, .int .i64 fh], .agg #[.int .i64 mn, .int .i64 mx, .int .i64 gi, .slice aw 4 cw]] W
        fun e w' => e = .returned (.tuple #[.int .i64 (if ok k = true then cost k else 0), .int .i64 (if ok k = true then 0 else 10)]) ∧ Below W.heap.size W w') from ⟨s, vl, vb, vi, vh, vq, hc, fun W hW => h W (hb4.trans (hW.mono hb4.size))⟩))
      clear hso hb4 f0 f1 f2 f3 t0 t1 t2 t3 HB3 HF3 HR3 HT3 HBest HCost
      go_upto_region 7 with fail
      go_cut [71] (fun t W => t = .bool false ∧ w4 = W)
      case first =>
        rcases HSo.out with ⟨rfl, _⟩ | ⟨q, rfl, rfl, hq, _⟩
        · go_wp2_with fail
          go_meet
          exact ⟨rfl, rfl⟩
        · have hq1 : (q : Int) < (n : Int) := by omega
          go_wp2_with fail
          go_meet
          exact ⟨by simp; omega, rfl⟩
      case rest =>
        obtain ⟨rfl, rfl⟩ := hcut
        go_upto_if 73 with fail
        go_cut [10] (fun t W => ∃ L : Int, t = .int .i64 L ∧ Hid ((c = 10 ∧ ∀ j, j < n → ok j = false) ∨ (c = 0 ∧ ∀ j, j < n → ok j = true → L ≤ cost j)) ∧ Hid (Below w4.heap.size w4 W))
        case first =>
          rcases HSo.out with ⟨rfl, hno⟩ | ⟨q, rfl, rfl, hq, hqo, hqb⟩
          · have HNo := Lib.hid hno
            clear hno
            go_wp2_with fail
            go_meet
            exact ⟨-1, rfl, Lib.hid (.inl ⟨rfl, HNo.out⟩), Lib.hid (Below.refl _ _)⟩
          · have HQb := Lib.hid (And.intro hqo hqb)
            have hq1 : (q : Int) < (n : Int) := by omega
            obtain ⟨b, rfl⟩ : ∃ b, ao = some ⟨b, 0, none⟩ := by
              rcases own_form HR4.out with h0 | h0
              · omega
              · exact h0
            obtain ⟨s, vl, vb, vi, vh, vq, ⟨x0, x1, x2, x3, x4, x5⟩, hfit⟩ := HCost4.out q hq
            rw [if_pos hqo, if_pos hqo] at hfit
            have cF : ∀ q os, Calls Tryz.prog 9 #[.agg #[.string s, .int .i64 vl, .int .i64 vb, .int .i64 vi, .int .i64 vh, .int .i64 vq], .agg #[.int .i64 fl, .int .i64 fb, .int .i64 fi, .int .i64 fh], .agg #[.int .i64 mn, .int .i64 mx, .int .i64 gi, .slice aw 4 cw]] (grow (redrawn w4 q) os) fun e w'' => e = .returned _ ∧ ∃ p : Regrown, w'' = grow (redrawn w4 p.d) p.os := fun q os => Calls.regrown_of (hfit _ (below_regrown w4 q os))
            have d0 := (HR4.out.cellAt (q * 6) (by omega)).trans x0
            have d1 := (HR4.out.cellAt (q * 6 + 1) (by omega)).trans x1
            have d2 := (HR4.out.cellAt (q * 6 + 2) (by omega)).trans x2
            have d3 := (HR4.out.cellAt (q * 6 + 3) (by omega)).trans x3
            have d4 := (HR4.out.cellAt (q * 6 + 4) (by omega)).trans x4
            have d5 := (HR4.out.cellAt (q * 6 + 5) (by omega)).trans x5
            obtain ⟨f0, f1, f2, f3⟩ := HF4.out.four0
            obtain ⟨t0, t1, t2, t3⟩ := HT4.out.four0
            have e0 := cell_regrown d0
            have e1 := cell_regrown d1
            have e2 := cell_regrown d2
            have e3 := cell_regrown d3
            have e4 := cell_regrown d4
            have e5 := cell_regrown d5
            have k0 := cell_regrown f0
            have k1 := cell_regrown f1
            have k2 := cell_regrown f2
            have k3 := cell_regrown f3
            have h0 := cell_regrown t0
            have h1 := cell_regrown t1
            have h2 := cell_regrown t2
            have h3 := cell_regrown t3
            clear hfit x0 x1 x2 x3 x4 x5 hqo hqb d0 d1 d2 d3 d4 d5 f0 f1 f2 f3 t0 t1 t2 t3
            go_upto_region 11 with fail
            refine wp_region_quiet_below (by kernel_rfl) (by kernel_rfl) ?_
            repeat (go_big_quiet_step (with_reducible exact cF _ _))
            refine wpQuiet_nil ?_
            intro _ hw'
            obtain ⟨⟨dq, osq⟩, hw''⟩ := hw'
            subst hw''
            clear e0 e1 e2 e3 e4 e5 k0 k1 k2 k3 h0 h1 h2 h3 cF
            have HBq := Lib.hid (below_regrown w4 dq osq)
            go_wp2_with fail
            go_meet
            exact ⟨_, rfl, Lib.hid (.inr ⟨rfl, HQb.out.2⟩), HBq⟩
        case rest =>
          obtain ⟨L, rfl, HL, HB5⟩ := hcut
          have HB6 := Lib.hid (HB4.out.step HB5.out)
          have HF6 := Lib.hid (HF4.out.below HB5.out)
          have HT6 := Lib.hid (HT4.out.below HB5.out)
          have HR6 := Lib.hid (own_below HR4.out HB5.out)
          have HCost6 := Lib.hid (fun k (hk : k < n) => by
            obtain ⟨s, vl, vb, vi, vh, vq, hc, h⟩ := HCost4.out k hk
            exact (show ∃ (s : ByteArray) (vl vb vi vh vq : Int), ((ls)[k * 6]? = some (.string s) ∧ (ls)[k * 6 + 1]? = some (.int .i64 vl) ∧ (ls)[k * 6 + 2]? = some (.int .i64 vb) ∧ (ls)[k * 6 + 3]? = some (.int .i64 vi) ∧ (ls)[k * 6 + 4]? = some (.int .i64 vh) ∧ (ls)[k * 6 + 5]? = some (.int .i64 vq))
      ∧ (∀ W, Below wc.heap.size wc W → Calls Tryz.prog 9 #[.agg #[.string s, .int .i64 vl, .int .i64 vb, .int .i64 vi, .int .i64 vh, .int .i64 vq], .agg #[.int .i64 fl, .int .i64 fb, .int .i64 fi, .int .i64 fh], .agg #[.int .i64 mn, .int .i64 mx, .int .i64 gi, .slice aw 4 cw]] W
        fun e w' => e = .returned (.tuple #[.int .i64 (if ok k = true then cost k else 0), .int .i64 (if ok k = true then 0 else 10)]) ∧ Below W.heap.size W w') from ⟨s, vl, vb, vi, vh, vq, hc, fun W hW => h W (HB5.out.trans (hW.mono HB5.out.size))⟩))
          clear HB5 HB4 HF4 HT4 HR4 HCost4 HSo
          generalize wc = w5 at HB6 HF6 HT6 HR6 HCost6 ⊢
          go_wp2_with fail
          go_loopw [13] (fun i wr => ∃ k : Nat, k ≤ n ∧ i = .int .i64 (k : Int) ∧ Hid (Below w5.heap.size w5 wr)) (fun i _ => n - (intOf i).toNat)
          case atStart => exact ⟨0, Nat.zero_le _, rfl, Lib.hid (Below.refl _ _)⟩
          case round =>
            obtain ⟨k, hk, rfl, hbw⟩ := hrel
            by_cases hlt : k < n
            · have hlt' : (k : Int) < (n : Int) := by omega
              obtain ⟨b, rfl⟩ : ∃ b, ao = some ⟨b, 0, none⟩ := by
                rcases own_form HR6.out with h0 | h0
                · omega
                · exact h0
              obtain ⟨s, vl, vb, vi, vh, vq, ⟨x0, x1, x2, x3, x4, x5⟩, hfit⟩ := HCost6.out k hlt
              have hrw := own_below HR6.out hbw.out
              have d0 := cell_regrown ((hrw.cellAt (k * 6) (by omega)).trans x0)
              have d1 := cell_regrown ((hrw.cellAt (k * 6 + 1) (by omega)).trans x1)
              have d2 := cell_regrown ((hrw.cellAt (k * 6 + 2) (by omega)).trans x2)
              have d3 := cell_regrown ((hrw.cellAt (k * 6 + 3) (by omega)).trans x3)
              have d4 := cell_regrown ((hrw.cellAt (k * 6 + 4) (by omega)).trans x4)
              have d5 := cell_regrown ((hrw.cellAt (k * 6 + 5) (by omega)).trans x5)
              obtain ⟨f0, f1, f2, f3⟩ := (HF6.out.below hbw.out).four0
              obtain ⟨t0, t1, t2, t3⟩ := (HT6.out.below hbw.out).four0
              have k0 := cell_regrown f0
              have k1 := cell_regrown f1
              have k2 := cell_regrown f2
              have k3 := cell_regrown f3
              have h0 := cell_regrown t0
              have h1 := cell_regrown t1
              have h2 := cell_regrown t2
              have h3 := cell_regrown t3
              obtain ⟨V, T, HV, HT, hcase⟩ : ∃ V T : Int, (if ok k = true then cost k else 0) = V ∧ (if ok k = true then (0 : Int) else 10) = T ∧ ((T = 10) ∨ (T = 0 ∧ c = 0 ∧ L ≤ V)) := by
                refine ⟨_, _, rfl, rfl, ?_⟩
                cases h : ok k with
                | false => exact .inl rfl
                | true =>
                  rcases HL.out with ⟨_, h5⟩ | ⟨h5, h6⟩
                  · rw [h5 k hlt] at h
                    cases h
                  · exact .inr ⟨rfl, h5, h6 k hlt h⟩
              rw [HV, HT] at hfit
              have cF : ∀ q os, Calls Tryz.prog 9 #[.agg #[.string s, .int .i64 vl, .int .i64 vb, .int .i64 vi, .int .i64 vh, .int .i64 vq], .agg #[.int .i64 fl, .int .i64 fb, .int .i64 fi, .int .i64 fh], .agg #[.int .i64 mn, .int .i64 mx, .int .i64 gi, .slice aw 4 cw]] (grow (redrawn wr q) os) fun e w'' => e = .returned (.tuple #[.int .i64 V, .int .i64 T]) ∧ ∃ p : Regrown, w'' = grow (redrawn wr p.d) p.os := fun q os => Calls.regrown_of (hfit _ (hbw.out.trans ((below_regrown wr q os).mono hbw.out.size)))
              clear hfit hrw x0 x1 x2 x3 x4 x5 f0 f1 f2 f3 t0 t1 t2 t3 HV HT
              have HCs := Lib.hid hcase
              clear hcase
              go_upto_region 18 with fail
              refine wp_region_quiet_below (by kernel_rfl) (by kernel_rfl) ?_
              repeat (go_big_quiet_step (with_reducible exact cF _ _))
              refine wpQuiet_nil ?_
              intro _ hw'
              obtain ⟨⟨dq, osq⟩, hw''⟩ := hw'
              subst hw''
              clear d0 d1 d2 d3 d4 d5 k0 k1 k2 k3 h0 h1 h2 h3 cF
              have HBq := Lib.hid (hbw.out.trans ((below_regrown wr dq osq).mono hbw.out.size))
              rcases HCs.out with rfl | ⟨rfl, rfl, hLV⟩
              · go_wp2_with fail
                go_roundw
                case rel => exact ⟨k + 1, by omega, by go_num, HBq⟩
                case measure => simp [intOf]; omega
              · have hVL : ¬ V < L := by omega
                go_wp2_with fail
                go_roundw
                case rel => exact ⟨k + 1, by omega, by go_num, HBq⟩
                case measure => simp [intOf]; omega
            · obtain rfl : k = n := by omega
              have HBe := Lib.hid (HB6.out.step hbw.out)
              clear HB6 HF6 HT6 HR6 HCost6 HL hbw hll h7 hlt hk
              go_wp2_with fail
              refine (a2Pattern_any wr n0 c0 a0 (HC0.out.below HBe.out.1)).mono ?_
              rintro e w7 ⟨p, aP, cP, aS, cS, op, gE, cE, rfl, hpo, hop, hpw, hb7⟩
              have HPo := Lib.hid hpo
              have HOp := Lib.hid hop
              have HBa := Lib.hid ((HBe.out.step hb7).alloc (.cells #[.slice aP p.n cP, .slice aS p.m cS, .int .i64 op] 41))
              have HPa := Lib.hid ((hpw.at_ hpo).below ((Below.refl _ w7).alloc (Nat.le_refl _) (.cells #[.slice aP p.n cP, .slice aS p.m cS, .int .i64 op] 41)))
              have HXa := Lib.hid (Obx.new w7 w.heap.size 41 3 #[.slice aP p.n cP, .slice aS p.m cS, .int .i64 op] (HBe.out.step hb7).2 rfl)
              clear hpo hop hpw hb7 HBe
              go_upto_region 22 with fail
              generalize w7.alloc (.cells #[.slice aP p.n cP, .slice aS p.m cS, .int .i64 op] 41) = W7 at HBa HPa HXa ⊢
              generalize w7.heap.size = qp at HXa ⊢
              have HS1 := Lib.hid (isSound_any p HPo.out aP aS cP cS op 1 HOp.out (by omega) W7 HPa.out)
              have HS2 := Lib.hid (fun W (hW : Below W7.heap.size W7 W) => openingsOf_any p HPo.out aP aS cP cS op HOp.out W (HPa.out.below hW))
              have HS3 := Lib.hid (fun W (hW : Below W7.heap.size W7 W) => seamDifferences_any p HPo.out aP aS cP cS op HOp.out W (HPa.out.below hW))
              unfold SoundEnd at HS1
              unfold OpeningsEnd at HS2
              unfold DiffsEnd at HS3
              obtain ⟨N, hN⟩ : ∃ N, (p.rings p.opens p.opens.length).1 = N := ⟨_, rfl⟩
              obtain ⟨ds, hds⟩ : ∃ ds, p.diffs p.m = ds := ⟨_, rfl⟩
              have hdl : ds.length = p.m := by rw [← hds]; simp [Pat.diffs]
              have hm8 := HPo.out.m
              rw [hN, hds] at HS1
              rw [hN] at HS2
              rw [hds] at HS3
              clear hN hds HPa HPo HOp
              generalize p.n = pn at HXa HS1 HS2 HS3 ⊢
              generalize p.m = pm at HXa HS1 HS2 HS3 hdl hm8 ⊢
              clear p
              obtain ⟨⟨p0, p1, p2⟩, _, _⟩ := HXa.out.three
              go_wp2_with fail
              refine HS1.out.mono ?_
              rintro e w8 ⟨b, rfl, hsb, hb8⟩
              have HSb := Lib.hid hsb
              have HB8 := Lib.hid hb8
              clear hsb hb8 p0 p1 p2
              obtain ⟨⟨p0, p1, p2⟩, _, _⟩ := (HXa.out.below HB8.out).three
              go_wp2_with fail
              refine (HS2.out w8 HB8.out).mono ?_
              rintro e w9 ⟨go, co, rfl, hN80, hb9⟩
              have HB9 := Lib.hid (HB8.out.trans (hb9.mono HB8.out.size))
              clear hb9 p0 p1 p2
              obtain ⟨⟨p0, p1, p2⟩, _, _⟩ := (HXa.out.below HB9.out).three
              go_wp2_with fail
              refine (HS3.out w9 HB9.out).mono ?_
              rintro e w10 ⟨ad, cd, rfl, hcd, hb10⟩
              have HB10 := Lib.hid (HB9.out.trans (hb10.mono HB9.out.size))
              have HCd := Lib.hid hcd
              clear hb10 hcd p0 p1 p2
              obtain ⟨⟨p0, p1, p2⟩, _, _⟩ := (HXa.out.below HB10.out).three
              go_upto_region 27 with fail
              go_cut [156] (fun t W => t = .bool false ∧ w10 = W)
              case first =>
                cases b
                · go_wp2_with fail
                  go_meet
                  exact ⟨rfl, rfl⟩
                · have hNo := (HSb.out rfl).2
                  subst hNo
                  go_wp2_with fail
                  go_meet
                  exact ⟨by first | rfl | (simp; done) | (simp; omega), rfl⟩
              case rest =>
                obtain ⟨rfl, rfl⟩ := hcut
                have HB11 := Lib.hid (HBa.out.step HB10.out)
                clear HS1 HS2 HS3 HB8 HB9 HB10 HBa HXa p0 p1 p2
                go_wp2_with fail
                go_loopw [23] (fun i wr => ∃ k : Nat, k ≤ pm ∧ i = .int .i64 (k : Int) ∧ Hid (w10 = wr)) (fun i _ => pm - (intOf i).toNat)
                case atStart => exact ⟨0, Nat.zero_le _, rfl, Lib.hid rfl⟩
                case round =>
                  obtain ⟨k, hk, rfl, hwr⟩ := hrel
                  obtain rfl := hwr.out
                  by_cases hlt : k < pm
                  · have hlt' : (k : Int) < (pm : Int) := by omega
                    obtain ⟨bd, od, rfl, hbd, hcd⟩ := HCd.out.at_ (by rw [List.length_map]; omega)
                    obtain ⟨x, hx⟩ : ∃ x, ds.getD k 0 = x := ⟨_, rfl⟩
                    have e0 : w10.cell? ⟨bd, od + k, none⟩ = some (.int .i64 x) := by
                      have h := hcd k (by rw [List.length_map]; omega)
                      rw [h, List.getElem?_map, List.getElem?_eq_getElem (by omega), ← hx]
                      simp [List.getD, List.getElem?_eq_getElem (show k < ds.length by omega)]
                    cases b
                    · clear hcd hx
                      go_wp2_with fail
                      go_roundw
                      case rel => exact ⟨k + 1, by omega, by go_num, Lib.hid (by first | rfl | trivial)⟩
                      case measure => simp [intOf]; omega
                    · have hx1 : ¬ 1 < x := by
                        have h := (HSb.out rfl).1 x (by rw [← hx, List.getD_eq_getElem?_getD, List.getElem?_eq_getElem (by omega)]; exact List.getElem_mem _)
                        omega
                      clear hcd hx
                      go_wp2_with fail
                      go_roundw
                      case rel => exact ⟨k + 1, by omega, by go_num, Lib.hid (by first | rfl | trivial)⟩
                      case measure => simp [intOf]; omega
                  · obtain rfl : k = pm := by omega
                    clear HSb HCd hwr
                    go_wp2_with fail
                    refine (a2Hide_any w10 n0 c0 a0 (HC0.out.below HB11.out.1)).mono ?_
                    rintro e w11 ⟨gr, rn, cr, rm, rows, rfl, _, hok, hr1, hb1⟩
                    have HOk := Lib.hid hok
                    have hn1 := hok.n1
                    have hn6 := hok.n6
                    have hsz := Lib.hid (fun r (h : r ∈ rows) => show r.size ≤ maxLen by rw [hok.size r h]; have := hok.m6; unfold maxLen; omega)
                    have HB12 := Lib.hid (HB11.out.step hb1.1)
                    have HR1 := Lib.hid hr1
                    clear hok hr1 hb1 HB11
                    go_wp2_with fail
                    refine (a2Cuts_any w11 n1 c1 a1 (HC1.out.below HB12.out.1)).mono ?_
                    rintro e w12 ⟨gz, nl, cz, zs, rfl, hzl, hcuts, hz2, hb2⟩
                    have HZ := Lib.hid hzl
                    have HCu := Lib.hid hcuts
                    have hn4 := cutsB_n hcuts
                    have HB2 := Lib.hid (HB12.out.step hb2.1)
                    have HR2 := Lib.hid (HR1.out.below hb2.1)
                    have HZ2 := Lib.hid hz2
                    obtain ⟨v1, v2, v3, v4, v5⟩ := best_plan HOk.out hcuts
                    have HP1 := Lib.hid (impl_BestPlan w12 (some ⟨gr, 0, none⟩) rn cr rows HOk.out.len (by omega) hsz.out HR2.out (some ⟨gz, 0, none⟩) nl cz zs HZ.out (by omega) HZ2.out)
                    rw [v3] at HP1
                    obtain ⟨wt, hwt⟩ : ∃ wt, planW rows zs nl = wt := ⟨_, rfl⟩
                    obtain ⟨pl, hpl⟩ : ∃ pl, planL rows zs nl = pl := ⟨_, rfl⟩
                    rw [hwt] at v4 v5 HP1
                    rw [hpl] at v1 v2 v4 HP1
                    have HV := Lib.hid (And.intro v1 (And.intro v2 (And.intro v4 v5)))
                    clear hzl hcuts hz2 hb2 v1 v2 v3 v4 v5 hwt hpl HR1 HB12 hsz
                    go_wp2_with fail
                    refine HP1.out.mono ?_
                    rintro e w13 ⟨ap1, kp1, cp1, rfl, hk1, _, ho1, hb3⟩
                    obtain rfl : nl = kp1 := by rw [← hk1]; exact HV.out.1.symm
                    have HB3 := Lib.hid (HB2.out.step hb3)
                    have HR3 := Lib.hid (HR2.out.below hb3)
                    have HZ3 := Lib.hid (HZ2.out.below hb3)
                    have HL3 := Lib.hid (show CellsAt w13 ap1 (pl.map (Value.int .i64)) from CellsAt.of_own ho1)
                    clear hb3 hk1 ho1 HP1 HR2 HZ2 HB2
                    go_wp2_with fail
                    refine (planFaultTop w13 (some ⟨gr, 0, none⟩) (some ⟨gz, 0, none⟩) ap1 rows rn rm cr nl cz cp1 zs pl HOk.out HR3.out HZ.out HZ3.out HCu.out HV.out.1 HL3.out HV.out.2.1).mono ?_
                    rintro e w14 ⟨rfl, hb4⟩
                    have HB4 := Lib.hid (HB3.out.step hb4)
                    have HR4 := Lib.hid (HR3.out.below hb4)
                    have HZ4 := Lib.hid (HZ3.out.below hb4)
                    have HL4 := Lib.hid (HL3.out.below hb4)
                    clear hb4 HR3 HZ3 HB3 HL3
                    have HPW := Lib.hid (planWorth_any w14 (some ⟨gr, 0, none⟩) (some ⟨gz, 0, none⟩) ap1 rows rn rm cr nl cz cp1 zs pl HOk.out HR4.out HZ.out HZ4.out HCu.out HV.out.1 HL4.out HV.out.2.1)
                    rw [← HV.out.2.2.1] at HPW
                    go_wp2_with fail
                    refine HPW.out.mono ?_
                    rintro e w15 ⟨rfl, hb5⟩
                    have HB5 := Lib.hid (HB4.out.step hb5)
                    have HR5 := Lib.hid (HR4.out.below hb5)
                    have HZ5 := Lib.hid (HZ4.out.below hb5)
                    clear hb5 HR4 HZ4 HB4 HL4 HPW
                    go_wp2_with fail
                    refine (a2Plan_any w15 n1 c1 a1 (HC1.out.below HB5.out.1) (some ⟨gr, 0, none⟩) (some ⟨gz, 0, none⟩) rows rn rm cr nl cz zs HOk.out HR5.out HZ.out HZ5.out HCu.out).mono ?_
                    rintro e w16 ⟨gp, cp, ps, rfl, hpl, hso, hp8, hb8⟩
                    have HB6 := Lib.hid (HB5.out.step hb8.1)
                    have HPX := Lib.hid (planWorth_any w16 (some ⟨gr, 0, none⟩) (some ⟨gz, 0, none⟩) (some ⟨gp, 0, none⟩) rows rn rm cr nl cz cp zs ps HOk.out (HR5.out.below hb8.1) HZ.out (HZ5.out.below hb8.1) HCu.out hpl hp8 hso)
                    have hle := HV.out.2.2.2 ps hso
                    generalize worthD (doneL zs ps nl) = wo at HPX hle
                    clear hpl hso hp8 hb8 HR5 HZ5 HB5
                    go_wp2_with fail
                    refine HPX.out.mono ?_
                    rintro e w17 ⟨rfl, hb9⟩
                    have HB7 := Lib.hid (HB6.out.step hb9)
                    clear hb9 HPX HV
                    go_wp2_with fail
                    go_ret
                    exact ⟨rfl, HB7.out.1⟩
    · go_enter Tryz.func3, Tryz.ntmps3
      go_wp2_with (go_at_call 4; go_in)
      go_ret
      exact ⟨rfl, (by repeat (first | exact Below.refl _ _ | assumption | refine Below.drew ?_ | refine below_drewN ?_ _ | refine Below.alloc ?_ (by simp; try omega) _ | refine Below.setCell ?_ (by simp; try omega) _))⟩
  · go_enter Tryz.func3, Tryz.ntmps3
    go_wp2_with (go_at_call 4; go_in)
    go_ret
    exact ⟨rfl, (by repeat (first | exact Below.refl _ _ | assumption | refine Below.drew ?_ | refine below_drewN ?_ _ | refine Below.alloc ?_ (by simp; try omega) _ | refine Below.setCell ?_ (by simp; try omega) _))⟩
end Go.Proofs.YthemlamdchcicaaGreatDoor
