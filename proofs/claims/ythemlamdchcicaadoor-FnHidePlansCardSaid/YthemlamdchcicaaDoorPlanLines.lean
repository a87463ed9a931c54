/-
  impl.PlanLines at a sound plan. No condition of its own.
-/
import Derived.Test.YthemlamdchcicaaDoorLinesP
import Derived.Test.YthemlamdchcicaaDoorShelf
namespace Go.Proofs.YthemlamdchcicaaDoor
open Go.ChangeShapes Go.WideShapes Go.ChangeAt Go.RowKit Go.Deep Go.Sort

theorem bit_one {M k : Nat} (hM : M < 2 ^ 36) (h : M.testBit k = true) : bits BinOp.and IntKind.u64 ((M : Int) / 2 ^ k) 1 = 1 := by
  have h36 : (2 : Nat) ^ 36 = 68719476736 := rfl
  have e : (M : Int) / 2 ^ k = ((M / 2 ^ k : Nat) : Int) := by push_cast; rfl
  have h2 : M / 2 ^ k ≤ M := Nat.div_le_self _ _
  have h1 := bits_and_u64_nat (M / 2 ^ k) 1 (by omega) (by omega)
  rw [Nat.testBit_eq_decide_div_mod_eq, decide_eq_true_eq] at h
  rw [Nat.and_one_is_mod, h] at h1
  rw [e]
  exact h1
theorem bit_zero {M k : Nat} (hM : M < 2 ^ 36) (h : M.testBit k = false) : bits BinOp.and IntKind.u64 ((M : Int) / 2 ^ k) 1 = 0 := by
  have h36 : (2 : Nat) ^ 36 = 68719476736 := rfl
  have e : (M : Int) / 2 ^ k = ((M / 2 ^ k : Nat) : Int) := by push_cast; rfl
  have h2 : M / 2 ^ k ≤ M := Nat.div_le_self _ _
  have h1 := bits_and_u64_nat (M / 2 ^ k) 1 (by omega) (by omega)
  rw [Nat.testBit_eq_decide_div_mod_eq, decide_eq_false_iff_not] at h
  rw [Nat.and_one_is_mod, show M / 2 ^ k % 2 = 0 by omega] at h1
  rw [e]
  exact h1
theorem mask_bit {m f k : Nat} {c : Cut} (hk : k < 36) : (maskN m c f).testBit k = inR m c f k := by
  rw [maskN, bitsN_bit, show decide (k < 36) = true by simpa using hk, Bool.true_and]
theorem u8s_len (l : List UInt8) : (u8s l).length = l.length := by simp [u8s]
theorem u8s_set (l : List UInt8) (k : Nat) (b : UInt8) (x : Int) (h : x = (b.toNat : Int)) : (u8s l).set k (.int .u8 x) = u8s (l.set k b) := by
  subst h
  rw [u8s, u8s, List.map_set]
def LinesEnd (w : World) (L : List UInt8) (m n : Nat) (e : Ending) (w' : World) : Prop :=
  ∃ (g c : Nat), e = .returned (.tuple #[.slice (some ⟨g, 0, none⟩) n c, .int .i64 0]) ∧ CellsAt w' (some ⟨g, 0, none⟩) (strs (rowsOf L m n)) ∧ Below w.heap.size w w'
set_option maxRecDepth 100000 in
set_option maxHeartbeats 6400000 in
theorem planLines_any (w : World) (a al ap : Option Addr) (rows : List ByteArray) (n m ca nl cl cp : Nat) (zs ps : List Int) (hca : n ≤ ca) (hok : HideOk rows n m) (hr : CellsAt w a (strs rows)) (hz : zs.length = nl * 4) (hcl : CellsAt w al (zs.map (Value.int .i64))) (hcuts : cutsB zs nl = true)
    (hpl : ps.length = nl) (hcp : CellsAt w ap (ps.map (Value.int .i64))) (hso : PlanSo rows n m zs ps nl) :
    Calls Tryd.prog 11 #[.slice a n ca, .slice al nl cl, .slice ap nl cp] w (LinesEnd w (paintP (flatB rows) m zs ps nl) m n) := by
  have hn4 := cutsB_n hcuts
  obtain ⟨r0, hr0, _, hr0s, _⟩ := hide_row hok (show 0 < n from hok.n1)
  have hn1 := hok.n1
  have hn6 := hok.n6
  have hm6 := hok.m6
  have hm1 := hok.m1
  have HSd := Lib.hid (soundCode_ok w a al ap rows n m ca nl cl cp zs ps hok hr hz hcl hcuts hpl hcp hso)
  obtain ⟨b, o, rfl, hb, hcc⟩ := hr.at_ (by rw [strs_len, hok.len]; omega)
  have hr00 : (strs rows)[0]? = some (.string r0) := by simp [strs, hr0]
  have HSz := Lib.hid (fun W (hbW : Below w.heap.size w W) => sizeOf_any b o n m ca r0 W hn1 ((hbW.cell (p := ⟨b, o, none⟩) hb).trans ((hcc 0 (by rw [strs_len, hok.len]; omega)).trans hr00)) hr0s hm6 hn6)
  have hfl := flat_at rows hok.size
  rw [hok.len] at hfl
  have hnm : n * m ≤ 36 := Nat.mul_le_mul hn6 hm6
  have HJ := Lib.hid (fun W (hbW : Below w.heap.size w W) => by
    have h := Tryd.strings_Join b o ca rows ⟨#[]⟩ W (fun j x hx => by
      rw [(hbW.cell (p := ⟨b, o + j, none⟩) hb).trans (hcc j (by rw [strs_len]; exact (List.getElem?_eq_some_iff.1 hx).1))]
      simp [strs, hx]) (Nat.lt_of_lt_of_le hb hbW.size) (by rw [hok.len]; omega) (by rw [hok.len]; exact hca) (by
        rw [show (⟨#[]⟩ : ByteArray).data.toList = [] from rfl, join_nil]
        have h2 := hfl.1
        unfold flatB at h2
        rw [h2]
        omega)
    rw [show (⟨#[]⟩ : ByteArray).data.toList = [] from rfl, join_nil, hok.len] at h
    exact h)
  have HOk := Lib.hid hok
  have HR := Lib.hid hr
  have HL := Lib.hid hcl
  have HP := Lib.hid hcp
  have HZ := Lib.hid hz
  have HPl := Lib.hid hpl
  have HCu := Lib.hid hcuts
  have HSo := Lib.hid hso
  obtain ⟨F, hF⟩ : ∃ F, flatB rows = F := ⟨_, rfl⟩
  have hF2 : (List.map (fun x => x.data.toList) rows).flatten = F := hF
  rw [hF2] at HJ
  rw [hF] at hfl ⊢
  obtain ⟨N, hN⟩ : ∃ N, n * m = N := ⟨_, rfl⟩
  have hFl : F.length = N := by rw [hfl.1, hN]
  rw [hN] at hnm
  have HN := Lib.hid hN
  clear hr hcl hcp hok hz hpl hcuts hso hr0 hr0s hcc hr00 hfl hF2 hF hN
  go_enter Tryd.func11, Tryd.ntmps11
  go_wp2_with fail
  refine HSd.out.mono ?_
  rintro e w1 ⟨rfl, hb1⟩
  have HB1 := Lib.hid (Bel.of hb1)
  clear hb1
  go_wp2_with fail
  refine (HSz.out _ HB1.out.1).mono ?_
  rintro e w2 ⟨rfl, hb2⟩
  have HB2 := Lib.hid (HB1.out.step hb2)
  clear hb2
  go_wp2_with fail
  refine (HJ.out _ HB2.out.1).mono ?_
  rintro e w3 ⟨rfl, hb3⟩
  have HB3 := Lib.hid (HB2.out.step hb3)
  obtain ⟨W4, c4, hcv, hbr, hb4, hc4⟩ := bytes_of w3 ⟨F.toArray⟩ w.heap.size HB3.out.2
  have hFs : (⟨F.toArray⟩ : ByteArray).size = N := by rw [← hFl]; rfl
  rw [hFs] at hcv hc4
  obtain ⟨q, hq⟩ : ∃ q, w3.heap.size = q := ⟨_, rfl⟩
  rw [hq] at hcv hbr
  have hbr' : BRow W4 w.heap.size q (u8s F) := hbr
  have HR4 := Lib.hid hbr'
  have HB4 := Lib.hid (HB3.out.step hb4)
  have hqb := hbr.lt.1
  clear hbr hbr' hb4 hq hb3 hFs
  go_wp2_with fail
  go_loopw [12, 13, 14, 15, 16, 36, 55] (fun _ _ _ _ _ u _ wr => ∃ i : Nat, i ≤ nl ∧ u = .int .i64 i ∧ Hid (BRow wr w.heap.size q (u8s (paintP F m zs ps i))) ∧ Hid (Bel w.heap.size w wr)) (fun _ _ _ _ _ u _ _ => nl - (intOf u).toNat)
  case atStart => exact ⟨0, by omega, rfl, HR4, HB4⟩
  case round =>
    obtain ⟨i, hi, rfl, hrow, hbw⟩ := hrel
    by_cases hlt : i < nl
    · have i1 : (i : Int) < (nl : Int) := by omega
      obtain ⟨bP, oP, rfl, hbP, hcP⟩ := HP.out.at_ (by simp [HPl.out]; omega)
      obtain ⟨x, hx⟩ : ∃ x, ps.getD i 0 = x := ⟨_, rfl⟩
      have hcx := int_cell hbP hbw.out.1 hcP (by rw [HPl.out]; exact hlt) hx
      have HX := Lib.hid hx
      have hxb := HSo.out.1 i hlt
      rw [hx, HN.out] at hxb
      obtain ⟨hxb1, hxb2⟩ := hxb
      clear hx hcP hcv
      by_cases h0 : x < 0
      · have HE := Lib.hid (show paintP F m zs ps (i + 1) = paintP F m zs ps i by rw [paintP, if_pos (by rw [HX.out]; exact h0)])
        go_wp2_with fail
        go_roundw
        case rel => exact ⟨i + 1, by omega, by go_num, Lib.hid (by rw [HE.out]; exact hrow.out), hbw⟩
        case measure => simp [intOf]; omega
      · obtain ⟨f, rfl⟩ : ∃ f : Nat, x = (f : Int) := ⟨x.toNat, by omega⟩
        have hf : f < n * m := by rw [HN.out]; omega
        obtain ⟨bL, oL, rfl, hbL, hcL⟩ := HL.out.at_ (by simp [HZ.out]; omega)
        obtain ⟨_, hck, hx0, hx1⟩ := cutsB_at HCu.out hlt
        obtain ⟨e0, e1, e2, e3⟩ := cut_cells hbL hbw.out.1 hcL HZ.out hlt hx0 hx1
        have hyes := okB_yes (sound_at HSo.out.2 i hlt) (by rw [HX.out]; omega)
        rw [HX.out, show ((f : Nat) : Int).toNat = f by omega] at hyes
        have HFl := Lib.hid (fieldsOf_any (some ⟨b, o, none⟩) rows n m ca (cutAt zs i) f wr HOk.out (HR.out.below hbw.out.1) hck hf)
        have hfld : fldT rows n m (cutAt zs i) f = .tuple #[.int .u64 (maskN m (cutAt zs i) f : Int), .bool true] := by unfold fldT; rw [hyes.2.1, if_pos rfl]
        rw [hfld] at HFl
        obtain ⟨M, hM⟩ : ∃ M, maskN m (cutAt zs i) f = M := ⟨_, rfl⟩
        have hM36 : M < 2 ^ 36 := by rw [← hM]; exact mask_lt
        rw [hM] at HFl
        obtain ⟨c, hcc⟩ : ∃ c, cutAt zs i = c := ⟨_, rfl⟩
        have hbit : ∀ k, k < 36 → M.testBit k = inR m c f k := fun k hk => by rw [← hM, ← hcc]; exact mask_bit hk
        have HBit := Lib.hid hbit
        obtain ⟨P0, hP0⟩ : ∃ P0, paintP F m zs ps i = P0 := ⟨_, rfl⟩
        have hP0l : P0.length = N := by rw [← hP0, paintP_len]; exact hFl
        have HE := Lib.hid (show paintP F m zs ps (i + 1) = paintL P0 m c f i N by rw [paintP, if_neg (by rw [HX.out]; omega), HX.out, hP0, hP0l, hcc]; rfl)
        rw [hP0] at hrow
        have HP0 := Lib.hid hP0l
        rw [hcc] at e0 e1 e2 e3 HFl
        have hw8 : IntKind.u8.wrap (48 + (i : Int)) = 48 + (i : Int) := by
          have e1 : IntKind.u8.wrap (48 + (i : Int)) = (48 + (i : Int)) % 256 := by simp [IntKind.wrap, IntKind.signed, IntKind.bits]
          rw [e1]; omega
        have hu8 := Lib.hid (show 48 + (i : Int) = ((UInt8.ofNat (48 + i)).toNat : Int) by rw [UInt8.toNat_ofNat', Nat.mod_eq_of_lt (by omega)]; omega)
        obtain ⟨ws, hs, cq, v⟩ := c
        clear hcc hM hfld hck hx0 hx1 hyes hcL hbit hP0 hP0l
        go_wp2_with fail
        refine HFl.out.mono ?_
        rintro e w5 ⟨rfl, hb5⟩
        have HR5 := Lib.hid (hrow.out.below hb5)
        have HB5 := Lib.hid (hbw.out.step hb5)
        clear hb5 e0 e1 e2 e3 hcx
        go_wp2_with fail
        go_loopw [16, 55] (fun _ u wx => ∃ k : Nat, k ≤ N ∧ u = .int .i64 k ∧ Hid (BRow wx w.heap.size q (u8s (paintL P0 m ⟨ws, hs, cq, v⟩ f i k))) ∧ Hid (Bel w.heap.size w wx)) (fun _ u _ => N - (intOf u).toNat)
        case atStart => exact ⟨0, by omega, rfl, Lib.hid (by rw [paint_zero]; exact HR5.out), HB5⟩
        case round =>
          clear HR5 HB5 hrow hbw
          obtain ⟨k, hk, rfl, hrk, hbk⟩ := hrel
          by_cases hkn : k < N
          · have k1 : (k : Int) < (N : Int) := by omega
            have hbit := HBit.out k (by omega)
            have hlen : k < (u8s (paintL P0 m ⟨ws, hs, cq, v⟩ f i k)).length := by rw [u8s_len, paint_len, HP0.out]; exact hkn
            obtain ⟨u0, hu0⟩ : ∃ u, wr.cell? ⟨q, k, none⟩ = some u := by
              rw [hrk.out.cell k hlen]
              exact ⟨_, List.getElem?_eq_getElem hlen⟩
            have hf0 := hrk.out.fr k hlen
            have hset := hrk.out.set k (.int .u8 (48 + (i : Int)))
            rw [u8s_set _ _ _ _ hu8.out] at hset
            cases hir : inR m ⟨ws, hs, cq, v⟩ f k with
            | true =>
              rw [hir] at hbit
              have h1 := bit_one hM36 hbit
              rw [paint_yes hir] at hset
              have HS := Lib.hid hset
              have HB6 := Lib.hid (hbk.out.setCell (p := ⟨q, k, none⟩) (by show w.heap.size ≤ q; exact hqb) (.int .u8 (48 + (i : Int))))
              clear hbit hlen hset hir
              go_wp2_with fail
              go_roundw
              case rel => exact ⟨k + 1, by omega, by go_num, HS, HB6⟩
              case measure => simp [intOf]; omega
            | false =>
              rw [hir] at hbit
              have h1 := bit_zero hM36 hbit
              have HS := Lib.hid (show BRow wr w.heap.size q (u8s (paintL P0 m ⟨ws, hs, cq, v⟩ f i (k + 1))) by rw [paint_no hir]; exact hrk.out)
              clear hbit hlen hset hir
              go_wp2_with fail
              go_roundw
              case rel => exact ⟨k + 1, by omega, by go_num, HS, hbk⟩
              case measure => simp [intOf]; omega
          · obtain rfl : k = N := by omega
            go_wp2_with fail
            go_roundw
            case rel => exact ⟨i + 1, by omega, by go_num, Lib.hid (by rw [HE.out]; exact hrk.out), hbk⟩
            case measure => simp [intOf]; omega
    · obtain rfl : i = nl := by omega
      obtain ⟨L, hL⟩ : ∃ L, paintP F m zs ps i = L := ⟨_, rfl⟩
      rw [hL] at hrow
      have HLe := Lib.hid hL
      have hLl : L.length = N := by rw [← hL, paintP_len]; exact hFl
      have HO := Lib.hid (own_none' wr w.heap.size 9 1 hbw.out.2)
      have HR6 := Lib.hid (hrow.out.below ((Below.refl _ _).alloc (Nat.le_refl _) (.cells #[] 9)))
      have HB6 := Lib.hid (hbw.out.alloc (.cells #[] 9))
      have hqw := hrow.out.lt.2
      clear hL hcv
      go_wp2_with fail
      go_loopw [17, 18] (fun t u wx => ∃ y : Nat, y ≤ n ∧ ∃ A : Nat, u = .int .i64 A ∧ A ≤ N ∧ Hid (A = y * m) ∧ ∃ (g co : Nat), t = .slice (some ⟨g, 0, none⟩) y co ∧ q < g ∧ Hid (wx.ownsRow w.heap.size 9 1 (.slice (some ⟨g, 0, none⟩) y co) y (strs (rowsOf L m y))) ∧ Hid (BRow wx w.heap.size q (u8s L)) ∧ Hid (Bel w.heap.size w wx)) (fun _ u _ => N - (intOf u).toNat)
      case atStart => exact ⟨0, by omega, 0, rfl, by omega, Lib.hid (by simp), wr.heap.size, 0, rfl, hqw, HO, HR6, HB6⟩
      case round =>
        clear HO HR6 HB6 hrow hbw
        obtain ⟨y, hy, A, rfl, hAN, hA, g, co, rfl, hqg, hown, hrk, hbk⟩ := hrel
        by_cases hyn : y < n
        · have hA2 : A + m ≤ N := by
            rw [hA.out, ← HN.out, ← Nat.succ_mul]
            exact Nat.mul_le_mul_right _ hyn
          have k1 : (A : Int) < (N : Int) := by omega
          have hl : ((L.drop A).take m).length = m := by rw [List.length_take, List.length_drop]; omega
          have hcv2 := run_convert_bytes_back (P := Tryd.prog) wr 22 9 5 ⟨q, A, none⟩ (c4 - A) ((L.drop A).take m) Tryd.underlying22 Tryd.underlying5 Tryd.underlying9 (fun j hj => by
            rw [addr_add, hrk.out.cell (A + j) (by rw [u8s_len]; omega), u8s, List.getElem?_map]
            have e : L[A + j]? = ((L.drop A).take m)[j]? := by rw [List.getElem?_take, if_pos (by omega), List.getElem?_drop]
            rw [e, List.getElem?_eq_getElem hj]
            rfl)
          rw [hl] at hcv2
          have HR7 := Lib.hid (show rowsOf L m (y + 1) = rowsOf L m y ++ [⟨((L.drop A).take m).toArray⟩] by rw [rowsOf_succ, hA.out])
          obtain ⟨t, ht⟩ : ∃ t : ByteArray, t = ⟨((L.drop A).take m).toArray⟩ := ⟨_, rfl⟩
          rw [← ht] at hcv2 HR7
          have HA3 := Lib.hid (show A + m = (y + 1) * m by rw [hA.out, Nat.succ_mul])
          have hgq := Lib.hid hrk.out.lt.2
          clear ht hl
          go_wp2_with (at_builtin; refine appStr (by rfl) _ _ (by rfl) w.heap.size _ _ _ (by rfl) hown.out t 1 wr.heap.size (by simp) (by rfl) (by omega) hbk.out ?_; intro g7 cap7 w7 ho7 hb7 hg7 hat7; have Ho7 := Lib.hid ho7; have Hb7 := Lib.hid hb7; have Hr7 := Lib.hid (hrk.out.grown hg7 (fun e => by have h1 : g = q := (by simpa [Value.ownBlock] using e); omega)); have Hg7 := Lib.hid (grow_far hat7 hqg hgq.out); clear ho7 hb7 hg7 hat7)
          have hg7' := Hg7.out
          go_roundw
          case rel => exact ⟨y + 1, by omega, A + m, by go_num, hA2, HA3, g7, cap7, rfl, hg7', Lib.hid (by rw [HR7.out]; exact Ho7.out), Hr7, Hb7⟩
          case measure => simp [intOf]; omega
        · obtain rfl : y = n := by omega
          obtain rfl : A = N := by rw [hA.out, HN.out]
          go_wp2_with fail
          go_ret2
          exact ⟨g, co, rfl, by rw [HLe.out]; exact CellsAt.of_own hown.out, hbk.out.1⟩
end Go.Proofs.YthemlamdchcicaaDoor
