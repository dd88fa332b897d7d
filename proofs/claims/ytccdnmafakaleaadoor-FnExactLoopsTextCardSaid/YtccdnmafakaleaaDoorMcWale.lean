/-
  Wales: wale of the program, l11Wale of the reference; l11Children, l07Live of the reference.
-/
import Derived.Test.YtccdnmafakaleaaDoorMcLive
namespace Go.Proofs.YtccdnmafakaleaaDoor
set_option linter.unusedVariables false
set_option linter.unusedSimpArgs false
open Go.RowKit


set_option maxHeartbeats 4000000 in
set_option maxRecDepth 100000 in
theorem l11Children_any (m : Mc) (g : Nat) (c : Int) (w : World) (h : RdP w g m) (h300 : m.ls.length ≤ 300) :
    Calls Tryd.prog 88 #[.pointer (some ⟨g, 0, none⟩), .int .i64 c] w (GivesOw w 2 1 (chL m c).length (vI (chL m c))) := by
  obtain ⟨i0, hi, hz0, hz1, hz2⟩ := info_parts info_int
  obtain ⟨F, G, C, L, D, hc, h1, h2, hL, h4, h5, h6⟩ := h
  rename RdIs w w.heap.size L m.ls => hL'
  obtain ⟨AI, cI, rfl⟩ := RdN.shape hL'
  have hgl : g < w.heap.size := block_lt_of_cell hc.seven.1
  have HI := Lib.hid hL'
  have HC := Lib.hid hc
  generalize hln : m.ls.length = n at *
  have HLN := Lib.hid hln
  clear hL' hc hln h1 h2 hL h5 h6
  generalize hY : chL m c = Y
  have HY := Lib.hid hY
  clear hY
  go_enter Tryd.func88, Tryd.ntmps88
  go_wp2
  go_loopw [5, 6] (fun t i wr => ∃ (k : Nat) (acc : List Int), k ≤ n ∧ i = .int .i64 k ∧ wr.ownsRow w.heap.size 2 1 t acc.length (vI acc) ∧ acc.length ≤ k ∧ Hid (Y = acc ++ chGo c (k : Int) (m.ls.drop k)) ∧ Below w.heap.size w wr) (fun _ i _ => n - (intOf i).toNat)
  case atStart => exact ⟨0, [], Nat.zero_le _, rfl, World.ownsRow_lit _ _ _ (Nat.le_refl _) (by unfold maxLen; omega) rfl, Nat.le_refl _, by unfold Hid; rw [← HY.out]; rfl, (Below.refl _ _).alloc (Nat.le_refl _) _⟩
  case round =>
    rename_i wr
    obtain ⟨k, acc, hk, rfl, hown, hak, hd, hb⟩ := hrel
    obtain ⟨x0, x1, x2, x3, x4, x5, x6⟩ := (HC.out.below hb hgl).seven
    by_cases hlt : k < n
    · obtain ⟨b, off, x, s, rfl, hbb, hlk, hcc, hs⟩ := (RdIs.below HI.out hb).at_ hlt
      obtain ⟨c0, c1, c2, c3, c4, c5⟩ := hcc.six
      have HB := Lib.hid hb
      have HO := Lib.hid hown
      have HS := Lib.hid (hs.more hb.size)
      cases hy : x.ps.contains c
      · have HD := Lib.hid (ch_no hd.out hlk hy)
        have HYY := Lib.hid hy
        clear hb hown hd hlk hs hcc hy
        go_wp2_with fail
        refine (l00Has_any _ _ c _ HS.out).mono ?_
        rintro e w1 ⟨rfl, hb1⟩
        rw [HYY.out]
        have HB1 := Lib.hid (HB.out.trans (hb1.mono HB.out.size))
        have HO1 := Lib.hid (own_below HO.out hb1)
        clear hb1
        go_wp2
        exact ⟨⟨k + 1, acc, by omega, by go_num, HO1.out, by omega, HD.out, HB1.out⟩, by simp [intOf]; omega⟩
      · have HD := Lib.hid (ch_yes hd.out hlk hy)
        have HYY := Lib.hid hy
        clear hb hown hd hlk hs hcc hy
        go_wp2_with fail
        refine (l00Has_any _ _ c _ HS.out).mono ?_
        rintro e w1 ⟨rfl, hb1⟩
        rw [HYY.out]
        have HB1 := Lib.hid (HB.out.trans (hb1.mono HB.out.size))
        have HO1 := Lib.hid (own_below HO.out hb1)
        clear hb1 HB HO
        go_wp2_with (at_builtin; refine wpList_append_own _ rfl _ _ 25 rfl w.heap.size 2 i0 _ 1 8 Tryd.underlying25 hi hz0 hz1 hz2 rfl (by decide) _ _ _ rfl (HO1.out.alloc _) ⟨w1.heap.size, 0, none⟩ 1 1 [.int .i64 (k : Int)] rfl rfl ?c1 ?c2 ?c3 ?c4 ?c5 ?_)
        case c1 => exact new_cells' _ _ rfl
        case c2 => exact int_one _
        case c3 => unfold maxLen; omega
        case c4 => omega
        case c5 => have := HB1.out.size; simp; omega
        intro v' w2 hown2 hgrow2 _
        have HB2 := Lib.hid (below_append' (HB1.out.alloc HB1.out.size _) (by have := HB1.out.size; simp; omega) HO1.out (by simp) hgrow2)
        have HO2 : Hid (w2.ownsRow w.heap.size 2 1 v' (acc ++ [(k : Int)]).length (vI (acc ++ [(k : Int)]))) := by unfold Hid; rw [vI_snoc, List.length_append]; exact hown2
        clear hgrow2 hown2
        go_wp2
        exact ⟨⟨k + 1, acc ++ [(k : Int)], by omega, by go_num, HO2.out, by simp; omega, HD.out, HB2.out⟩, by simp [intOf]; omega⟩
    · have HB := Lib.hid hb
      have HO := Lib.hid hown
      have HD := Lib.hid (show Y = acc by rw [hd.out, List.drop_of_length_le (by have := HLN.out; omega)]; simp [chGo])
      clear hb hown hd
      go_wp2
      go_ret
      exact ⟨_, rfl, by rw [HD.out]; exact OwC.of_own HO.out, HB.out⟩

theorem lv_next {m : Mc} {Y acc : List Int} {x : Int} (h : Y = acc ++ (ndGo m (m.wd + 3 - x).toNat x).flatMap (onL m)) (hx : x < m.wd + 3) : Y = (acc ++ (ndX m x).flatMap (onL m)) ++ (ndGo m (m.wd + 3 - (x + 1)).toNat (x + 1)).flatMap (onL m) := by
  rw [h, show (m.wd + 3 - x).toNat = (m.wd + 3 - (x + 1)).toNat + 1 by omega, ndGo, List.flatMap_append, List.append_assoc]
theorem onL_fr {m : Mc} {x : Int} {n : Nat} {l : List Int} (h : x = (n : Int)) (hl : m.fr[n]? = some l) : onL m (1, x) = l := by
  subst h
  unfold onL
  rw [if_neg (by simp), List.getD_eq_getElem?_getD, show ((1 : Int), (n : Int)).2.toNat = n by simp, hl]; rfl
theorem onL_bk {m : Mc} {x : Int} {n : Nat} {l : List Int} (h : x = (n : Int)) (hl : m.bk[n]? = some l) : onL m (2, x) = l := by
  subst h
  unfold onL
  rw [if_pos rfl, List.getD_eq_getElem?_getD, show ((2 : Int), (n : Int)).2.toNat = n by simp, hl]; rfl

set_option maxHeartbeats 4000000 in
set_option maxRecDepth 100000 in
theorem l07Live_any (m : Mc) (g : Nat) (w : World) (h : RdP w g m) (ok : okM m = true) :
    Calls Tryd.prog 87 #[.pointer (some ⟨g, 0, none⟩)] w (GivesOw w 2 1 (liveL m).length (vI (liveL m))) := by
  obtain ⟨i0, hi, hz0, hz1, hz2⟩ := info_parts info_int
  have hgl := h.lt
  obtain ⟨F, G, C, L, D, hc, h1, h2, h3, h4, h5, h6⟩ := h
  obtain ⟨d1, d2, d3, d4, d5, d6, -⟩ := ok_wd ok
  obtain ⟨AF, cF, rfl⟩ := RdN.shape h1
  obtain ⟨AG, cG, rfl⟩ := RdN.shape h2
  have HC := Lib.hid hc
  have HF := Lib.hid h1
  have HG := Lib.hid h2
  have HOK := Lib.hid ok
  have HY := Lib.hid (show liveL m = [] ++ (ndGo m (m.wd + 3 - (-3)).toNat (-3)).flatMap (onL m) by unfold liveL; rw [nd_start d1]; rfl)
  have hwr1 : IntKind.i64.wrap (m.wd - 1) = m.wd - 1 := IntWalk.i64_in _ (by omega)
  have hwr3 : IntKind.i64.wrap (m.wd + 3) = m.wd + 3 := IntWalk.i64_in _ (by omega)
  clear hc h1 h2 h3 h4 h5 h6 ok
  generalize liveL m = Y at *
  generalize hnf : m.fr.length = nf at *
  generalize hnb : m.bk.length = nb at *
  have HNF := Lib.hid hnf
  have HNB := Lib.hid hnb
  clear hnf hnb
  go_enter Tryd.func87, Tryd.ntmps87
  go_wp2
  go_loopw [3, 4] (fun t i wr => ∃ (x : Int) (acc : List Int), -3 ≤ x ∧ x ≤ m.wd + 3 ∧ i = .int .i64 x ∧ wr.ownsRow w.heap.size 2 1 t acc.length (vI acc) ∧ (acc.length : Int) ≤ 8 * (x + 3) ∧ Hid (Y = acc ++ (ndGo m (m.wd + 3 - x).toNat x).flatMap (onL m)) ∧ Below w.heap.size w wr) (fun _ i _ => (m.wd + 3 - intOf i).toNat)
  case atStart => exact ⟨-3, [], by omega, by omega, rfl, World.ownsRow_lit _ _ _ (Nat.le_refl _) (by unfold maxLen; omega) rfl, by simp, HY.out, (Below.refl _ _).alloc (Nat.le_refl _) _⟩
  case round =>
    rename_i wr
    obtain ⟨x, acc, q1, q2, rfl, hown, hak, hd, hb⟩ := hrel
    obtain ⟨y0, y1, y2, y3, y4, y5, y6⟩ := (HC.out.below hb hgl).seven
    by_cases hlt : x < m.wd + 3
    · have HN := lv_next hd.out hlt
      have HB := Lib.hid hb
      have HO := Lib.hid hown
      have hz := hb.size
      cases hb1 : inB 0 x (m.wd - 1) <;> cases hb2 : inB 0 (x - m.rk) (m.wd - 1)
      · rw [ndX_ff hb1 hb2] at HN
        have I1 := Lib.hid hb1
        have I2 := Lib.hid hb2
        have HD := Lib.hid (show Y = acc ++ (ndGo m (m.wd + 3 - (x + 1)).toNat (x + 1)).flatMap (onL m) by rw [HN]; simp)
        clear HN hb hown hd
        clear hb1 hb2
        go_wp2_with (go_at_call 54; refine (l00In_s _ _ _ _).mono ?_; rintro e w' ⟨rfl, rfl⟩; first | rw [I1.out] | rw [I2.out])
        exact ⟨⟨x + 1, acc, by omega, by omega, by go_num, HO.out, by omega, HD.out, HB.out⟩, by simp [intOf]; omega⟩
      · rw [ndX_ft hb1 hb2] at HN
        have I1 := Lib.hid hb1
        have I2 := Lib.hid hb2
        obtain ⟨zn, hzn⟩ := Int.eq_ofNat_of_zero_le (inB_iff.1 I2.out).1
        have hzf : zn < nb := by have := (inB_iff.1 I2.out).2; omega
        obtain ⟨bG, oG, xG, sG, hAG, hbbG, hlG, hcG, hsG⟩ := (RdLL.below HG.out HB.out).at_ hzf
        obtain ⟨AsG, csG, rfl⟩ := hsG.len
        have hxG4 : xG.length ≤ 4 := by have := onL_len HOK.out (2, x - m.rk); rw [onL_bk hzn hlG] at this; exact this
        have HXG := Lib.hid (onL_bk hzn hlG)
        have HRG := Lib.hid (hsG.reads).1
        have hzi0 : (0 : Int) ≤ x - m.rk := by omega
        have hzi1 : x - m.rk < (nb : Int) := by omega
        have hzt : (x - m.rk).toNat = zn := by omega
        subst hAG
        rw [← hzt] at hcG
        clear hlG hsG hzt hzn
        have HD := Lib.hid (show Y = (acc ++ xG) ++ (ndGo m (m.wd + 3 - (x + 1)).toNat (x + 1)).flatMap (onL m) by rw [HN]; simp [HXG.out])
        clear HN hb hown hd
        clear hb1 hb2
        go_wp2_with (first | (go_at_call 54; refine (l00In_s _ _ _ _).mono ?_; rintro e w' ⟨rfl, rfl⟩; first | rw [I1.out] | rw [I2.out]) | (at_builtin; refine wpList_append_any _ rfl _ _ _ rfl w.heap.size 2 i0 _ 1 8 Tryd.underlying25 hi hz0 hz1 hz2 rfl (by decide) _ _ _ rfl HO.out _ AsG xG.length csG (vI xG) rfl HRG.out (vI_one xG) (by first | (unfold maxLen; omega) | (rw [List.length_append]; unfold maxLen; omega)) (by first | omega | (rw [List.length_append]; omega)) HB.out.size ?_))
        intro v2 w2 hown2 hg2 hat2
        have HB2 := Lib.hid (HB.out.grown hg2 HB.out.size (fun kk hkk => (HO.out.lt kk hkk).1))
        have HO2 : Hid (w2.ownsRow w.heap.size 2 1 v2 (acc ++ xG).length (vI (acc ++ xG))) := by unfold Hid; rw [List.length_append, vI_append]; first | exact hown2 | (rw [List.length_append]; exact hown2)
        clear hown2 hg2 hat2 HO HB y0 y1 y2 y3 y4 y5 y6
        have HB := HB2
        have HO := HO2
        clear HB2 HO2
        obtain ⟨y0, y1, y2, y3, y4, y5, y6⟩ := (HC.out.below HB.out hgl).seven
        go_wp2
        exact ⟨⟨x + 1, acc ++ xG, by omega, by omega, by go_num, HO.out, by simp; omega, HD.out, HB.out⟩, by simp [intOf]; omega⟩
      · rw [ndX_tf hb1 hb2] at HN
        have I1 := Lib.hid hb1
        have I2 := Lib.hid hb2
        obtain ⟨xn, hxn⟩ := Int.eq_ofNat_of_zero_le (inB_iff.1 I1.out).1
        have hxf : xn < nf := by have := (inB_iff.1 I1.out).2; omega
        obtain ⟨bF, oF, xF, sF, hAF, hbbF, hlF, hcF, hsF⟩ := (RdLL.below HF.out HB.out).at_ hxf
        obtain ⟨AsF, csF, rfl⟩ := hsF.len
        have hxF4 : xF.length ≤ 4 := by have := onL_len HOK.out (1, x); rw [onL_fr hxn hlF] at this; exact this
        have HXF := Lib.hid (onL_fr hxn hlF)
        have HRF := Lib.hid (hsF.reads).1
        have hxi0 : (0 : Int) ≤ x := by omega
        have hxi1 : x < (nf : Int) := by omega
        have hxt : x.toNat = xn := by omega
        subst hAF
        rw [← hxt] at hcF
        clear hlF hsF hxt hxn
        have HD := Lib.hid (show Y = (acc ++ xF) ++ (ndGo m (m.wd + 3 - (x + 1)).toNat (x + 1)).flatMap (onL m) by rw [HN]; simp [HXF.out])
        clear HN hb hown hd
        clear hb1
        go_wp2_with (first | (go_at_call 54; refine (l00In_s _ _ _ _).mono ?_; rintro e w' ⟨rfl, rfl⟩; first | rw [I1.out] | rw [I2.out]) | (at_builtin; refine wpList_append_any _ rfl _ _ _ rfl w.heap.size 2 i0 _ 1 8 Tryd.underlying25 hi hz0 hz1 hz2 rfl (by decide) _ _ _ rfl HO.out _ AsF xF.length csF (vI xF) rfl HRF.out (vI_one xF) (by first | (unfold maxLen; omega) | (rw [List.length_append]; unfold maxLen; omega)) (by first | omega | (rw [List.length_append]; omega)) HB.out.size ?_))
        intro v1 w1 hown1 hg1 hat1
        have HB1 := Lib.hid (HB.out.grown hg1 HB.out.size (fun kk hkk => (HO.out.lt kk hkk).1))
        have HO1 : Hid (w1.ownsRow w.heap.size 2 1 v1 (acc ++ xF).length (vI (acc ++ xF))) := by unfold Hid; rw [List.length_append, vI_append]; first | exact hown1 | (rw [List.length_append]; exact hown1)
        clear hown1 hg1 hat1 HO HB y0 y1 y2 y3 y4 y5 y6
        have HB := HB1
        have HO := HO1
        clear HB1 HO1
        obtain ⟨y0, y1, y2, y3, y4, y5, y6⟩ := (HC.out.below HB.out hgl).seven
        clear hb2
        go_wp2_with (go_at_call 54; refine (l00In_s _ _ _ _).mono ?_; rintro e w' ⟨rfl, rfl⟩; rw [I2.out])
        exact ⟨⟨x + 1, acc ++ xF, by omega, by omega, by go_num, HO.out, by simp; omega, HD.out, HB.out⟩, by simp [intOf]; omega⟩
      · rw [ndX_tt hb1 hb2] at HN
        have I1 := Lib.hid hb1
        have I2 := Lib.hid hb2
        obtain ⟨xn, hxn⟩ := Int.eq_ofNat_of_zero_le (inB_iff.1 I1.out).1
        have hxf : xn < nf := by have := (inB_iff.1 I1.out).2; omega
        obtain ⟨bF, oF, xF, sF, hAF, hbbF, hlF, hcF, hsF⟩ := (RdLL.below HF.out HB.out).at_ hxf
        obtain ⟨AsF, csF, rfl⟩ := hsF.len
        have hxF4 : xF.length ≤ 4 := by have := onL_len HOK.out (1, x); rw [onL_fr hxn hlF] at this; exact this
        have HXF := Lib.hid (onL_fr hxn hlF)
        have HRF := Lib.hid (hsF.reads).1
        have hxi0 : (0 : Int) ≤ x := by omega
        have hxi1 : x < (nf : Int) := by omega
        have hxt : x.toNat = xn := by omega
        subst hAF
        rw [← hxt] at hcF
        clear hlF hsF hxt hxn
        have HN1 := Lib.hid HN
        clear HN hb hown hd
        clear hb1
        go_wp2_with (first | (go_at_call 54; refine (l00In_s _ _ _ _).mono ?_; rintro e w' ⟨rfl, rfl⟩; first | rw [I1.out] | rw [I2.out]) | (at_builtin; refine wpList_append_any _ rfl _ _ _ rfl w.heap.size 2 i0 _ 1 8 Tryd.underlying25 hi hz0 hz1 hz2 rfl (by decide) _ _ _ rfl HO.out _ AsF xF.length csF (vI xF) rfl HRF.out (vI_one xF) (by first | (unfold maxLen; omega) | (rw [List.length_append]; unfold maxLen; omega)) (by first | omega | (rw [List.length_append]; omega)) HB.out.size ?_))
        intro v1 w1 hown1 hg1 hat1
        have HB1 := Lib.hid (HB.out.grown hg1 HB.out.size (fun kk hkk => (HO.out.lt kk hkk).1))
        have HO1 : Hid (w1.ownsRow w.heap.size 2 1 v1 (acc ++ xF).length (vI (acc ++ xF))) := by unfold Hid; rw [List.length_append, vI_append]; first | exact hown1 | (rw [List.length_append]; exact hown1)
        clear hown1 hg1 hat1 HO HB y0 y1 y2 y3 y4 y5 y6
        have HB := HB1
        have HO := HO1
        clear HB1 HO1
        obtain ⟨y0, y1, y2, y3, y4, y5, y6⟩ := (HC.out.below HB.out hgl).seven
        obtain ⟨zn, hzn⟩ := Int.eq_ofNat_of_zero_le (inB_iff.1 I2.out).1
        have hzf : zn < nb := by have := (inB_iff.1 I2.out).2; omega
        obtain ⟨bG, oG, xG, sG, hAG, hbbG, hlG, hcG, hsG⟩ := (RdLL.below HG.out HB.out).at_ hzf
        obtain ⟨AsG, csG, rfl⟩ := hsG.len
        have hxG4 : xG.length ≤ 4 := by have := onL_len HOK.out (2, x - m.rk); rw [onL_bk hzn hlG] at this; exact this
        have HXG := Lib.hid (onL_bk hzn hlG)
        have HRG := Lib.hid (hsG.reads).1
        have hzi0 : (0 : Int) ≤ x - m.rk := by omega
        have hzi1 : x - m.rk < (nb : Int) := by omega
        have hzt : (x - m.rk).toNat = zn := by omega
        subst hAG
        rw [← hzt] at hcG
        clear hlG hsG hzt hzn
        have HD := Lib.hid (show Y = ((acc ++ xF) ++ xG) ++ (ndGo m (m.wd + 3 - (x + 1)).toNat (x + 1)).flatMap (onL m) by rw [HN1.out]; simp [HXF.out, HXG.out])
        clear hb2
        go_wp2_with (first | (go_at_call 54; refine (l00In_s _ _ _ _).mono ?_; rintro e w' ⟨rfl, rfl⟩; first | rw [I1.out] | rw [I2.out]) | (at_builtin; refine wpList_append_any _ rfl _ _ _ rfl w.heap.size 2 i0 _ 1 8 Tryd.underlying25 hi hz0 hz1 hz2 rfl (by decide) _ _ _ rfl HO.out _ AsG xG.length csG (vI xG) rfl HRG.out (vI_one xG) (by first | (unfold maxLen; omega) | (rw [List.length_append]; unfold maxLen; omega)) (by first | omega | (rw [List.length_append]; omega)) HB.out.size ?_))
        intro v2 w2 hown2 hg2 hat2
        have HB2 := Lib.hid (HB.out.grown hg2 HB.out.size (fun kk hkk => (HO.out.lt kk hkk).1))
        have HO2 : Hid (w2.ownsRow w.heap.size 2 1 v2 ((acc ++ xF) ++ xG).length (vI ((acc ++ xF) ++ xG))) := by unfold Hid; rw [List.length_append, vI_append]; first | exact hown2 | (rw [List.length_append]; exact hown2)
        clear hown2 hg2 hat2 HO HB y0 y1 y2 y3 y4 y5 y6
        have HB := HB2
        have HO := HO2
        clear HB2 HO2
        obtain ⟨y0, y1, y2, y3, y4, y5, y6⟩ := (HC.out.below HB.out hgl).seven
        go_wp2
        exact ⟨⟨x + 1, (acc ++ xF) ++ xG, by omega, by omega, by go_num, HO.out, by simp; omega, HD.out, HB.out⟩, by simp [intOf]; omega⟩
    · have HB := Lib.hid hb
      have HO := Lib.hid hown
      have HD := Lib.hid (show Y = acc by rw [hd.out, show (m.wd + 3 - x).toNat = 0 by omega]; simp [ndGo])
      clear hb hown hd
      go_wp2
      go_ret
      exact ⟨_, rfl, by rw [HD.out]; exact OwC.of_own HO.out, HB.out⟩

end Go.Proofs.YtccdnmafakaleaaDoor
