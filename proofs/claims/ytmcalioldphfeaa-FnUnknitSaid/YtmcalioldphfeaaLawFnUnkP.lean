/-
  Proved: an operation that makes a loop is taken back, except for the place of its carrier, whatever the bytes are: the law answers true. No condition.
-/
import Derived.Test.YtmcalioldphfeaaPk12
import Derived.Test.YtmcalioldphfeaaPk11
namespace Go.Proofs.Ytmcalioldphfeaa
set_option linter.unusedVariables false
set_option linter.unusedSimpArgs false
open Go.ChangeShapes Go.WideShapes Go.ChangeAt Go.RowKit Go.Deep

theorem op_car {wd : Int} {o : Opr} (h : okOpW wd o = true) (hk : o.k = 1 ∨ o.k = 2 ∨ o.k = 5) : 1 ≤ o.c ∧ o.c ≤ 4 := by
  rcases okOp_kinds (okOpW_iff.1 h).1 with ⟨_, a, b, c, d, _⟩ | ⟨e, _⟩ | ⟨_, b, _, _, a, c, d, _⟩ | ⟨e, _⟩ | ⟨e, _⟩ | ⟨e, _⟩ | ⟨e, _⟩
  · exact ⟨c, d⟩
  · omega
  · exact ⟨c, d⟩
  · omega
  · omega
  · omega
  · omega
theorem do_len {m : Mc} {o : Opr} (h : okOpW m.wd o = true) (hk : o.k = 1 ∨ o.k = 2 ∨ o.k = 5) (hc : doCode m o = 0) : (doTo m o).ls.length = m.ls.length + 1 := by
  unfold doTo
  rw [if_pos hk]
  unfold fmTo
  split
  · exact (last_add _ _ _ _ _).2
  · split
    · exact (last_add _ _ _ _ _).2
    · rw [(last_add _ _ _ _ _).2]
      congr 1
      unfold mvTo setL
      split <;> split <;> rfl

theorem ut_one {m m1 : Mc} (h : OkP m1) (hl : m1.ls.length = m.ls.length + 1) (hc : unkRC m1 = 0) : utC m1 (m.ls.length : Int) = 0 ∧ utS m1 (m.ls.length : Int) = 1 ∧ (utR m1 (m.ls.length : Int)).ls.length = m.ls.length := by
  have hok := okM_iff.2 h
  have hu : unkC m1 = 0 := by unfold unkRC at hc; rw [hok, if_neg (by decide)] at hc; exact hc
  have hin : inB 0 (m.ls.length : Int) (m1.ls.length : Int) = true := inB_iff.2 ⟨by omega, by omega⟩
  have hg : utGo (m1.ls.length - (m.ls.length : Int).toNat) m1 = (0, unkM m1) := by
    rw [show m1.ls.length - (m.ls.length : Int).toNat = 0 + 1 by omega, utGo, if_pos hu]
    rfl
  have h1 : utC m1 (m.ls.length : Int) = 0 := by unfold utC; rw [hok, if_neg (by decide), hin, if_neg (by decide), hg]
  refine ⟨h1, by unfold utS; rw [if_pos h1]; omega, ?_⟩
  unfold utR
  rw [if_pos h1, hg]
  exact unkM_len hl

set_option maxHeartbeats 40000000 in
set_option maxRecDepth 100000 in
theorem FnUnknit.core (v0 : Value) (W : World) (hb : RdB W W.heap.size v0) : Calls Try.prog 5 #[v0] W fun e W' => e = .returned (.bool true) ∧ Below W.heap.size W W' := by
  have HB := Lib.hid hb
  obtain ⟨A0, n0, c0, rfl, hn0, -⟩ := hb
  by_cases hlong : 1048576 < n0
  · go_enter Try.func5, Try.ntmps5
    go_wp2_with fail
    refine (b10Long_s A0 n0 c0 hn0 true (by simpa using hlong) _).mono ?_
    rintro e w' ⟨rfl, rfl⟩
    go_wp2
    go_ret
    exact ⟨rfl, Below.refl _ _⟩
  go_enter Try.func5, Try.ntmps5
  go_wp2_with fail
  refine (b10Long_s A0 n0 c0 hn0 false (by simpa using hlong) _).mono ?_
  rintro e w' ⟨rfl, rfl⟩
  go_wp2_with fail
  refine (drawStep_any W _ HB.out).mono ?_
  rintro e w1 ⟨m, v, x, rfl, hrd, hsm, hb1⟩
  obtain ⟨A1, c1, A2, c2, A3, c3, A4, c4, A5, c5, rfl⟩ := RdM.shape hrd.rd
  have V1 := Lib.hid hrd
  have HSM := Lib.hid hsm
  have B1 := Lib.hid hb1
  clear hrd hsm hb1 hlong HB
  have hXM := (Bx.new w1 [.int .i64 m.wd, .int .i64 m.rk, .slice A1 m.fr.length c1, .slice A2 m.bk.length c2, .slice A3 m.cs.length c3, .slice A4 m.ls.length c4, .slice A5 m.dr.length c5] 32).alloc (.cells [.int .i64 x.k, .int .i64 x.d, .int .i64 x.fb, .int .i64 x.fa, .int .i64 x.tb, .int .i64 x.ta, .int .i64 x.c, .int .i64 x.r].toArray 47)
  have hXO := Bx.new (w1.alloc (.cells [.int .i64 m.wd, .int .i64 m.rk, .slice A1 m.fr.length c1, .slice A2 m.bk.length c2, .slice A3 m.cs.length c3, .slice A4 m.ls.length c4, .slice A5 m.dr.length c5].toArray 32)) [.int .i64 x.k, .int .i64 x.d, .int .i64 x.fb, .int .i64 x.fa, .int .i64 x.tb, .int .i64 x.ta, .int .i64 x.c, .int .i64 x.r] 47
  rw [World.size_alloc] at hXO
  have hbA := ((Below.refl w1.heap.size w1).alloc (Nat.le_refl _) (.cells [.int .i64 m.wd, .int .i64 m.rk, .slice A1 m.fr.length c1, .slice A2 m.bk.length c2, .slice A3 m.cs.length c3, .slice A4 m.ls.length c4, .slice A5 m.dr.length c5].toArray 32)).alloc (by simp) (.cells [.int .i64 x.k, .int .i64 x.d, .int .i64 x.fb, .int .i64 x.fa, .int .i64 x.tb, .int .i64 x.ta, .int .i64 x.c, .int .i64 x.r].toArray 47)
  have VA := Lib.hid (V1.out.below (Nat.le_refl _) hbA)
  have BA := Lib.hid (B1.out.trans (hbA.mono B1.out.size))
  have XM := Lib.hid hXM
  have XO := Lib.hid hXO
  clear hXM hXO hbA V1 B1
  go_upto_region 4 with fail
  generalize (w1.alloc (.cells #[.int .i64 m.wd, .int .i64 m.rk, .slice A1 m.fr.length c1, .slice A2 m.bk.length c2, .slice A3 m.cs.length c3, .slice A4 m.ls.length c4, .slice A5 m.dr.length c5] 32)).alloc (.cells #[.int .i64 x.k, .int .i64 x.d, .int .i64 x.fb, .int .i64 x.fa, .int .i64 x.tb, .int .i64 x.ta, .int .i64 x.c, .int .i64 x.r] 47) = wA at *
  obtain ⟨gm, hgm⟩ : ∃ gm, gm = w1.heap.size := ⟨_, rfl⟩
  rw [← hgm] at XM XO ⊢
  have hgA : gm + 1 < wA.heap.size := XO.out.2.2
  clear hgm
  obtain ⟨o0, o1, o2, o3, o4, o5, o6, o7⟩ := XO.out.eight
  by_cases hk : x.k = 1 ∨ x.k = 2 ∨ x.k = 5
  case neg =>
    have k1 : (x.k != 1) = true := by simp; omega
    have k2 : (x.k != 2) = true := by simp; omega
    have k3 : (x.k != 5) = true := by simp; omega
    clear hk
    go_wp2
    go_ret
    exact ⟨rfl, BA.out⟩
  have HK := Lib.hid hk
  go_cut [32] (fun s32 wx => wA = wx ∧ s32 = .bool false)
  case first =>
    rcases hk with hk | hk | hk
    · rw [hk] at o0
      clear hk
      go_wp2
      go_meet
      case rel => exact ⟨rfl, rfl⟩
    · rw [hk] at o0
      clear hk
      go_wp2
      go_meet
      case rel => exact ⟨rfl, rfl⟩
    · rw [hk] at o0
      clear hk
      go_wp2
      go_meet
      case rel => exact ⟨rfl, rfl⟩
  case rest =>
    obtain ⟨rfl, rfl⟩ := hcut
    clear hk
    obtain ⟨x0, x1, x2, x3, x4, x5, x6⟩ := CellsAt.seven XM.out.1
    have HQ := Lib.hid (stepMachine_any _ m x wA VA.out.rd HSM.out.fit)
    go_wp2_with fail
    refine (HQ.out).mono ?_
    rintro e w2 ⟨v2, rfl, how2, hb2⟩
    obtain ⟨N1, p1, N2, p2, N3, p3, N4, p4, N5, p5, rfl⟩ := OwMs.shape how2
    clear o0 o1 o2 o3 o4 o5 o6 o7 x0 x1 x2 x3 x4 x5 x6 HQ
    by_cases hst : stC m x = 0
    case neg =>
      have hst' : (stC m x != 0) = true := by simpa using hst
      have HB2 := Lib.hid (BA.out.trans (hb2.mono BA.out.size))
      have hsz := HB2.out.size
      clear how2 hb2 hst
      generalize stC m x = sc at *
      generalize stR m x = sr at *
      go_wp2
      go_ret
      exact ⟨rfl, HB2.out.alloc hsz _⟩
    have hok : okM m = true := by
      unfold stC at hst
      cases h : okM m
      · rw [h] at hst; cases hst
      · rfl
    have hopw : okOpW m.wd x = true := by
      unfold stC at hst
      rw [hok, if_neg (by decide)] at hst
      cases h : okOpW m.wd x
      · rw [h] at hst; cases hst
      · rfl
    have hdo : doCode m x = 0 := by
      unfold stC at hst
      rw [hok, if_neg (by decide), hopw, if_neg (by decide)] at hst
      exact hst
    have hOK := okM_iff.1 hok
    have hOK1 := hOK.do_ hopw hdo
    obtain ⟨huc, p, hum⟩ := unk_do hOK hopw HK.out hdo
    obtain ⟨hc1, hc4⟩ := op_car hopw HK.out
    have hls1 := do_len hopw HK.out hdo
    have hsr : stR m x = doTo m x := by unfold stR; rw [if_pos hst]
    rw [hst]
    rw [hsr] at how2 ⊢
    obtain ⟨m1, hm1⟩ : ∃ m1, m1 = doTo m x := ⟨_, rfl⟩
    rw [← hm1] at how2 hOK1 huc hum hls1 ⊢
    have HOK := Lib.hid hOK
    have HOK1 := Lib.hid hOK1
    have HUC := Lib.hid (show unkRC m1 = 0 by unfold unkRC; rw [if_neg (by rw [okM_iff.2 hOK1]; decide)]; exact huc)
    have HUM := Lib.hid (show unkR m1 = setC m x.c ⟨(carAt m x.c).i, p⟩ by unfold unkR; rw [HUC.out, if_pos rfl]; exact hum)
    have HLS := Lib.hid hls1
    have N2_ := Lib.hid how2.rd
    have hbB := hb2.alloc hb2.size (.cells [.int .i64 m1.wd, .int .i64 m1.rk, .slice N1 m1.fr.length p1, .slice N2 m1.bk.length p2, .slice N3 m1.cs.length p3, .slice N4 m1.ls.length p4, .slice N5 m1.dr.length p5].toArray 32)
    have hXN := Bx.new w2 [.int .i64 m1.wd, .int .i64 m1.rk, .slice N1 m1.fr.length p1, .slice N2 m1.bk.length p2, .slice N3 m1.cs.length p3, .slice N4 m1.ls.length p4, .slice N5 m1.dr.length p5] 32
    have hbC := (Below.refl w2.heap.size w2).alloc (Nat.le_refl _) (.cells [.int .i64 m1.wd, .int .i64 m1.rk, .slice N1 m1.fr.length p1, .slice N2 m1.bk.length p2, .slice N3 m1.cs.length p3, .slice N4 m1.ls.length p4, .slice N5 m1.dr.length p5].toArray 32)
    have VB := Lib.hid (VA.out.below (Nat.le_refl _) hbB)
    have BB := Lib.hid (BA.out.trans (hbB.mono BA.out.size))
    have XMB := Lib.hid (XM.out.below hbB XM.out.2.2)
    have XOB := Lib.hid (XO.out.below hbB XO.out.2.2)
    have XNB := Lib.hid hXN
    have NB := Lib.hid (N2_.out.up hbC hbC.size)
    clear how2 hb2 hbB hXN hbC VA BA XM XO hst hsr hm1 hum huc hls1 hOK hOK1 N2_
    have HQ := Lib.hid (implUnknit_any _ m1 _ NB.out (SmM.of HOK1.out).fit)
    rw [HUC.out, HUM.out] at HQ
    have HCL := Lib.hid (show (setC m x.c ⟨(carAt m x.c).i, p⟩).cs.length = m.cs.length by unfold setC; simp)
    generalize hmk : setC m x.c ⟨(carAt m x.c).i, p⟩ = mk at *
    have HMK := Lib.hid hmk
    clear hmk hdo hopw hok
    go_wp2_with fail
    generalize hwB : w2.alloc (.cells #[.int .i64 m1.wd, .int .i64 m1.rk, .slice N1 m1.fr.length p1, .slice N2 m1.bk.length p2, .slice N3 m1.cs.length p3, .slice N4 m1.ls.length p4, .slice N5 m1.dr.length p5] 32) = wB at *
    obtain ⟨gn, hgn⟩ : ∃ gn, gn = w2.heap.size := ⟨_, rfl⟩
    rw [← hgn] at XNB ⊢
    clear hwB hgn
    refine (HQ.out).mono ?_
    rintro e w3 ⟨v3, rfl, how3, hb3⟩
    obtain ⟨K1, q1, K2, q2, K3, q3, K4, q4, K5, q5, rfl⟩ := OwMs.shape how3
    have V3 := Lib.hid (VB.out.below (Nat.le_refl _) hb3)
    have B3 := Lib.hid (BB.out.trans (hb3.mono BB.out.size))
    have XM3 := Lib.hid (XMB.out.below hb3 XMB.out.2.2)
    have XO3 := Lib.hid (XOB.out.below hb3 XOB.out.2.2)
    have XN3 := Lib.hid (XNB.out.below hb3 XNB.out.2.2)
    have N3_ := Lib.hid (NB.out.up hb3 hb3.size)
    have K3_ := Lib.hid how3.rd
    clear how3 hb3 VB BB XMB XOB XNB NB HQ
    have hbD := (Below.refl w3.heap.size w3).alloc (Nat.le_refl _) (.cells [.int .i64 mk.wd, .int .i64 mk.rk, .slice K1 mk.fr.length q1, .slice K2 mk.bk.length q2, .slice K3 mk.cs.length q3, .slice K4 mk.ls.length q4, .slice K5 mk.dr.length q5].toArray 32)
    have hXK := Bx.new w3 [.int .i64 mk.wd, .int .i64 mk.rk, .slice K1 mk.fr.length q1, .slice K2 mk.bk.length q2, .slice K3 mk.cs.length q3, .slice K4 mk.ls.length q4, .slice K5 mk.dr.length q5] 32
    have HXK := Lib.hid hXK
    have HBD := Lib.hid hbD
    obtain ⟨x0, x1, x2, x3, x4, x5, x6⟩ := CellsAt.seven (XM3.out.below hbD XM3.out.2.2).1
    have hcln := HCL.out
    have hnn : ((mk.cs.length : Int) != (m.cs.length : Int)) = false := by rw [hcln]; simp
    clear hcln hbD hXK
    go_upto_region 12 with fail
    obtain ⟨gb, hgb⟩ : ∃ gb, gb = w3.heap.size := ⟨_, rfl⟩
    generalize hwC : w3.alloc (.cells #[.int .i64 mk.wd, .int .i64 mk.rk, .slice K1 mk.fr.length q1, .slice K2 mk.bk.length q2, .slice K3 mk.cs.length q3, .slice K4 mk.ls.length q4, .slice K5 mk.dr.length q5] 32) = wC at *
    have hszC : wC.heap.size = gb + 1 := by rw [← hwC, World.size_alloc, hgb]
    have HK3 := Lib.hid (show Bx wC gb [.int .i64 mk.wd, .int .i64 mk.rk, .slice K1 mk.fr.length q1, .slice K2 mk.bk.length q2, .slice K3 mk.cs.length q3, .slice K4 mk.ls.length q4, .slice K5 mk.dr.length q5] by have h9 := HXK.out; rw [← hgb] at h9; exact h9)
    have HBD2 : Hid (Below w3.heap.size w3 wC) := HBD.out
    rw [← hgb]
    clear hwC HXK HBD x0 x1 x2 x3 x4 x5 x6
    obtain ⟨i0, hi, hz0, hz1, hz2⟩ := info_parts info_car
    obtain ⟨y0, y1, y2, y3, y4, y5, y6⟩ := CellsAt.seven HK3.out.1
    have y4a : ∀ o, (wC.alloc o).cell? ⟨gb, 0 + 4, none⟩ = some (.slice K3 mk.cs.length q3) := fun o => (((Below.refl wC.heap.size wC).alloc (Nat.le_refl _) o).cell (p := ⟨gb, 0 + 4, none⟩) HK3.out.2.2).trans y4
    have hrC : Reads wC wC.heap.size 2 K3 mk.cs.length (vS Car.cells mk.cs) := by
      obtain ⟨f, b, cs, ls, d, e, h1, h2, h3, h4, h5, h6⟩ := K3_.out
      injection e with e
      simp only [Array.mk.injEq, List.cons.injEq] at e
      obtain ⟨-, -, -, -, rfl, -, -, -⟩ := e
      exact (RdS.reads Car.len (by omega) (RdCs.up h3 HBD2.out HBD2.out.size)).1
    have HR := Lib.hid hrC
    have hcs4 := HOK.out.cs
    have hmk4 : mk.cs.length = 4 := by rw [HCL.out]; exact hcs4
    have hlit := World.ownsRow_lit (base := wC.heap.size) (e := 52) (size := 2) wC #[] 0 (Nat.le_refl _) (by unfold maxLen; omega) rfl
    have HLIT := Lib.hid hlit
    have HGB := Lib.hid hgb
    have HSZ := Lib.hid hszC
    have HMK4 := Lib.hid hmk4
    have HCS4 := Lib.hid hcs4
    have hmkle : mk.cs.length ≤ 1048576 := by omega
    clear hrC hlit hnn y0 y1 y2 y3 y5 y6 hgb hszC hmk4 hcs4
    go_wp2_with (at_builtin; refine wpList_append_any _ rfl _ _ _ rfl wC.heap.size 52 i0 _ 2 16 Try.underlying29 hi hz0 hz1 hz2 rfl (by decide) _ 0 [] rfl HLIT.out wC.heap.size _ mk.cs.length q3 (vS Car.cells mk.cs) rfl (HR.out.alloc (Nat.le_refl _) _) (car_one _) (by unfold maxLen; omega) (by omega) (by simp) ?_)
    intro v9 w5 hown hg hat
    have hgb := HGB.out
    have hszC := HSZ.out
    have hmk4 := HMK4.out
    have hcs4 := HCS4.out
    have hB5 := ((HBD2.out.alloc (by omega) (.cells #[] 52)).grown hg (by simp; omega) (fun kk hkk => by simp [Value.ownBlock] at hkk; omega))
    obtain ⟨b9, cap9, hv9, hb9, hb9w, hc9, -⟩ := row_slice hown (by omega)
    have hgb5 : Bx w5 gb [.int .i64 mk.wd, .int .i64 mk.rk, .slice K1 mk.fr.length q1, .slice K2 mk.bk.length q2, .slice K3 mk.cs.length q3, .slice K4 mk.ls.length q4, .slice K5 mk.dr.length q5] := by
      have h9 := (HK3.out.alloc (.cells #[] 52))
      refine h9.keep (hg.block gb (by have := h9.2.2; omega) ?_) (by have := hg.size; simpa using this)
      intro e
      have e' : some gb = some wC.heap.size := e
      injection e' with e''
      omega
    subst hv9
    have HO5 := Lib.hid hown
    have HB5 := Lib.hid hB5
    have HK5 := Lib.hid hgb5
    clear hown hg hat hB5 hgb5 HLIT HR HK3 y4 y4a
    obtain ⟨j, hyj⟩ : ∃ j : Nat, x.c - 1 = (j : Int) := ⟨(x.c - 1).toNat, by omega⟩
    have hjl : (j : Int) < 4 := by omega
    have hj0 : (0 : Int) ≤ (j : Int) := by omega
    have hw1 : IntKind.i64.wrap (x.c - 1) = (j : Int) := by rw [hyj]; exact wrap_sm (by omega) (by omega)
    have hw2 : IntKind.i64.wrap (j : Int) = (j : Int) := wrap_sm (by omega) (by omega)
    have hrc : RdCs w5 w5.heap.size (.slice A3 m.cs.length c3) m.cs := by
      obtain ⟨f, b, cs, ls, d, e, h1, h2, h3, h4, h5, h6⟩ := V3.out.rd
      injection e with e
      simp only [Array.mk.injEq, List.cons.injEq] at e
      obtain ⟨-, -, -, -, rfl, -, -, -⟩ := e
      exact RdCs.up h3 HB5.out HB5.out.size
    obtain ⟨bm, offm, cx, hA3, hbm, hcx, hcc⟩ := hrc.at_ (show j < m.cs.length by omega)
    subst hA3
    obtain ⟨-, cp5⟩ := CellsAt.two hcc
    have hcar : carAt m x.c = cx := by unfold carAt; rw [List.getD_eq_getElem?_getD, show (x.c - 1).toNat = j by omega, hcx]; rfl
    have hmkj : mk.cs = m.cs.set j ⟨cx.i, p⟩ := by rw [← HMK.out]; unfold setC; rw [show (x.c - 1).toNat = j by omega, hcar]
    have hmj : mk.cs[j]? = some ⟨cx.i, p⟩ := by rw [hmkj, List.getElem?_set_self (by omega)]
    have hrow : (vS Car.cells mk.cs).set (j * 2 + 1) (.int .i64 cx.p) = vS Car.cells m.cs := by
      rw [vS_carp hmj cx.p, hmkj, List.set_set]
      congr 1
      exact List.ext_getElem? fun i => by
        by_cases hi : i = j
        · subst hi; rw [List.getElem?_set_self (by omega), hcx]
        · rw [List.getElem?_set_ne (fun e => hi e.symm)]
    have o6 := CellsAt.eight (XO3.out.below HB5.out XO3.out.2.2).1 |>.2.2.2.2.2.2.1
    have m4 := CellsAt.seven (XM3.out.below HB5.out XM3.out.2.2).1 |>.2.2.2.2.1
    have hown5 := HO5.out
    have h9c := own_cellx hown5 (i := j * 2 + 1) (u := .int .i64 p) (by have h9 := vS_get Car.len mk.cs j _ hmj 1 (by omega); exact h9)
    have c9 := h9c.1
    have f9 := h9c.2.1 (j * 2 + 1)
    have hown6 := own_setx (i := j * 2 + 1) (.int .i64 cx.p) hown5 (by omega)
    rw [hrow] at hown6
    have HO6 := Lib.hid hown6
    have HB6 := Lib.hid ((HB5.out.setCell (p := ⟨b9, j * 2 + 1, none⟩) (by show w3.heap.size ≤ b9; omega) (.int .i64 cx.p)).drew)
    have HK6 := Lib.hid ((HK5.out.far (g' := b9) (by omega) (j * 2 + 1) (.int .i64 cx.p)).drew)
    have hj4 : (j : Int) < (m.cs.length : Int) := by omega
    have hj5 : (j : Int) < (mk.cs.length : Int) := by omega
    have hgw : w3.heap.size ≤ gb := by omega
    have hb9n : b9 ≠ gb := by omega
    clear hrc hcc hcar hmkj hmj hrow hown5 h9c hown6 hcx hbm HO5 HK5 hgb hszC hmk4 hcs4
    go_wp2
    go_region
    have HO6d : Hid ((w5.setCell ⟨b9, j * 2 + 1, none⟩ (.int .i64 cx.p)).drew.ownsRow wC.heap.size 52 2 (.slice (some ⟨b9, 0, none⟩) mk.cs.length cap9) mk.cs.length (vS Car.cells m.cs)) := HO6.out
    clear HO6 c9 f9 o6 m4 cp5
    generalize (w5.setCell ⟨b9, j * 2 + 1, none⟩ (.int .i64 cx.p)).drew = w6 at *
    obtain ⟨y0, y1, y2, y3, y4, y5, y6⟩ := CellsAt.seven HK6.out.1
    have yf := HK6.out.2.1 4
    have HB7 := Lib.hid (HB6.out.setCell (p := ⟨gb, 4, none⟩) hgw (.slice (some ⟨b9, 0, none⟩) mk.cs.length cap9))
    have HK7 := Lib.hid (HK6.out.set (i := 4) (by simp) (.slice (some ⟨b9, 0, none⟩) mk.cs.length cap9))
    have HO7 := Lib.hid (own_far (p := ⟨gb, 4, none⟩) HO6d.out (fun e => hb9n (by injection e)) (.slice (some ⟨b9, 0, none⟩) mk.cs.length cap9))
    obtain ⟨x0, x1, x2, x3, x4, x5, x6⟩ := CellsAt.seven (XM3.out.below HB7.out XM3.out.2.2).1
    obtain ⟨z0, z1, z2, z3, z4, z5, z6⟩ := CellsAt.seven HK7.out.1
    have hrd7 : RdM (w6.setCell ⟨gb, 4, none⟩ (.slice (some ⟨b9, 0, none⟩) mk.cs.length cap9)) (w6.setCell ⟨gb, 4, none⟩ (.slice (some ⟨b9, 0, none⟩) mk.cs.length cap9)).heap.size (.agg #[.int .i64 mk.wd, .int .i64 mk.rk, .slice K1 mk.fr.length q1, .slice K2 mk.bk.length q2, .slice (some ⟨b9, 0, none⟩) mk.cs.length cap9, .slice K4 mk.ls.length q4, .slice K5 mk.dr.length q5]) m := by
      obtain ⟨f, b, cs, ls, d, e, h1, h2, h3, h4, h5, h6⟩ := K3_.out
      injection e with e
      simp only [Array.mk.injEq, List.cons.injEq] at e
      obtain ⟨-, -, rfl, rfl, rfl, rfl, rfl, -⟩ := e
      have e0 : mk.wd = m.wd ∧ mk.rk = m.rk ∧ mk.fr = m.fr ∧ mk.bk = m.bk ∧ mk.ls = m.ls ∧ mk.dr = m.dr := by rw [← HMK.out]; exact ⟨rfl, rfl, rfl, rfl, rfl, rfl⟩
      obtain ⟨a1, a2, a3, a4, a5, a6⟩ := e0
      have hcl := HCL.out
      have ho7 := HO7.out
      rw [hcl] at ho7
      rw [hcl, a1, a2]
      refine ⟨_, _, _, _, _, rfl, ?_, ?_, RdS.of_own Car.len (OwC.of_own ho7), ?_, ?_, ?_⟩
      · have h9 := RdLL.up h1 HB7.out HB7.out.size; rw [hcl, a3] at h9; rw [a3]; exact h9
      · have h9 := RdLL.up h2 HB7.out HB7.out.size; rw [hcl, a4] at h9; rw [a4]; exact h9
      · have h9 := RdIs.up h4 HB7.out HB7.out.size; rw [hcl, a5] at h9; rw [a5]; exact h9
      · have h9 := RdI.up' h5 HB7.out HB7.out.size; rw [hcl, a6] at h9; rw [a6]; exact h9
      · rwa [a6] at h6 ⊢
    have HQ := Lib.hid (sameMachine_same _ _ m _ hrd7 (RdM.up V3.out.rd HB7.out HB7.out.size))
    have hfg := far_cell (show gb ≠ gm from fun e => by have h9 := XM3.out.2.2; omega)
    have hx0 := (XM3.out.below HB6.out XM3.out.2.2).1 0 _ rfl
    clear hrd7 HO7 HO6d
    go_wp2_with fail
    refine (HQ.out).mono ?_
    rintro e w8 ⟨rfl, hb8⟩
    have HB8 := Lib.hid (HB7.out.trans (hb8.mono HB7.out.size))
    clear hb8 HQ HB6 HB7 HK6 HK7 x0 x1 x2 x3 x4 x5 x6 y0 y1 y2 y3 y4 y5 y6 z0 z1 z2 z3 z4 z5 z6 yf hfg hx0
    obtain ⟨x0, x1, x2, x3, x4, x5, x6⟩ := CellsAt.seven (XM3.out.below HB8.out XM3.out.2.2).1
    obtain ⟨z0, z1, z2, z3, z4, z5, z6⟩ := CellsAt.seven (XN3.out.below HB8.out XN3.out.2.2).1
    obtain ⟨hut, hus, hul⟩ := ut_one HOK1.out HLS.out HUC.out
    have HQ := Lib.hid (implUnkTo_any _ m1 (m.ls.length : Int) w8 (RdM.up N3_.out HB8.out HB8.out.size) (SmM.of HOK1.out).fit)
    rw [hut, hus] at HQ
    generalize utR m1 (m.ls.length : Int) = mu at *
    have HUL := Lib.hid hul
    clear hut hus hul
    go_wp2_with fail
    refine (HQ.out).mono ?_
    rintro e w9 ⟨v9, rfl, how9, hb9'⟩
    obtain ⟨U1, r1, U2, r2, U3, r3, U4, r4, U5, r5, rfl⟩ := OwMs.shape how9
    have HB9 := Lib.hid (HB8.out.trans (hb9'.mono HB8.out.size))
    have HBF := Lib.hid (B3.out.trans (HB9.out.mono B3.out.size))
    clear hb9' how9 HQ x0 x1 x2 x3 x4 x5 x6 z0 z1 z2 z3 z4 z5 z6
    obtain ⟨x0, x1, x2, x3, x4, x5, x6⟩ := CellsAt.seven ((XM3.out.below HB9.out XM3.out.2.2).alloc (.cells #[.int .i64 mu.wd, .int .i64 mu.rk, .slice U1 mu.fr.length r1, .slice U2 mu.bk.length r2, .slice U3 mu.cs.length r3, .slice U4 mu.ls.length r4, .slice U5 mu.dr.length r5] 32)).1
    rw [HUL.out] at *
    have hsz9 := HBF.out.size
    go_wp2
    go_ret
    exact ⟨ret_bool (by simp), HBF.out.alloc hsz9 _⟩
set_option maxRecDepth 100000 in
theorem FnUnknit.walk {H : Type} {enc : TypeId × Value → H} {base : Nat} {d0 : DataW H} {p0 : List MemPlace} (W : World) (v0 : Value) (o0 : Value.okWide Try.prog W .any base 42 v0)
    (h0 : DataW.Trod enc Try.prog W 0 (fun _ => true) true 42 v0 d0 p0) : Calls Try.prog 5 #[v0] W fun e W' => e = .returned (.bool true) ∧ Below W.heap.size W W' :=
  FnUnknit.core v0 W (open_rdB Try.underlying42 Try.underlying5 (by kernel_rfl) o0 h0)

namespace FnUnknit
theorem own : ownKnob Try.prog.godebug = none := by kernel_rfl
theorem laidOut : laidOutB Try.prog = true := by kernel_rfl

set_option maxRecDepth 100000 in
theorem lifted (os : Os) (started : os.Started) (H : Type) (enc : TypeId × Value → H) :
    ReturnsInHanded {} Try.checked os 5 .any (Rows.fnUnknitSpec.pre6 enc Try.prog Try.f5 Rows.fnUnknitRow.domain false) (Rows.fnUnknitSpec.post enc Try.prog Try.f5 false true false false) := by
  refine returnsInHanded_of_change (C := Try.checked) own started (by kernel_rfl) Try.func5
    (ChangeSpec.witness6 (enc := enc) (C := Try.checked) false ⟨#[], #[.slice none 0 0], []⟩ 8 (by kernel_rfl) (by kernel_rfl) (by kernel_rfl) (by kernel_rfl)) ?_
  intro W base args ds gs before hval0 hW hcnd _
  have hval : ∀ (j : Nat) t v, Try.f5.params[j]? = some t → args[j]? = some v → Value.okWide Try.prog W .any base t v := hval0
  have hW' := hW
  obtain ⟨p, q, hA0, hV, rfl, hfz, hnd⟩ := hW
  have hA : DataW.TrodAll enc Try.prog W 0 (fun _ => true) true Try.f5.params.toList args.toList ds p := hA0
  rw [Try.params5] at hA hval
  obtain ⟨v0, vs0, d0, ds0, p0, q0, hargs, rfl, rfl, h0, r0⟩ := trodAll_cons hA
  obtain ⟨rfl, rfl, rfl⟩ := trodAll_nil r0
  obtain rfl : args = #[v0] := by cases args; simp_all
  obtain ⟨rfl, rfl⟩ := trodVars_none hV
  have k0 := h0
  have lt0 : ∀ x ∈ p0, x.block < W.heap.size := by obtain ⟨m, hm⟩ := k0; exact DataW.trod_lt m _ _ _ hm
  clear hA0 hval0
  refine (walk W v0 (hval 0 _ v0 rfl rfl) h0).mono fun e W' ⟨he, bel⟩ => ?_
  subst he
  exact ⟨_, rfl, _, _, _, [], _, [], hW', trodAll_mk1 (shut_bool Try.underlying4 _), (trodAll_cons_mk (Below.trod laidOut (by kernel_rfl) (of_decide_eq_true (by kernel_rfl)) k0 bel lt0) trodAll_mk0), rfl, bel.frame _, fun h => by cases h⟩

theorem over : Rows.fnUnknitRow.holds Try.pinned (OpenSpec.ofChange Rows.fnUnknitSpec) :=
  OpenClaim.holds_of_wide 5 Try.f5 rfl rfl rfl rfl rfl rfl rfl ⟨rfl, rfl, rfl, rfl, rfl⟩ rfl rfl rfl rfl rfl (by kernel_rfl) Try.func5 (by kernel_rfl)
    (of_decide_eq_true (by kernel_rfl)) (by unfold Func.isWrapper; first | (rw [if_pos (by decide +kernel)]; kernel_rfl) | (rw [if_neg (by decide +kernel)]; exact ⟨rfl, rfl⟩))
    (fun os started H enc _ => lifted os started H enc)

theorem proved : Rows.FnUnknitSaid := over
end FnUnknit

end Go.Proofs.Ytmcalioldphfeaa
