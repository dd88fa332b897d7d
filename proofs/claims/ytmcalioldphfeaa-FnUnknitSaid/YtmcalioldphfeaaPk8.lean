/-
  Texts joined: UkE.
-/
import Derived.Test.YtmcalioldphfeaaPk6
import Derived.Test.YtmcalioldphfeaaPk2
import Derived.Deep.CutBlock
/-
  The reference's l12Unknit on a machine of its own.
-/
namespace Go.Proofs.Ytmcalioldphfeaa
set_option linter.unusedVariables false
set_option linter.unusedSimpArgs false
open Go.RowKit

set_option maxHeartbeats 8000000 in
set_option maxRecDepth 100000 in
theorem l12Unknit_any {w : World} {B g : Nat} {m : Mc} {S : Nat → Spot} (h : MSt w B g m S) (hB : B ≤ w.heap.size) (ok : OkP m) :
    Calls Try.prog 39 #[.pointer (some ⟨g, 0, none⟩)] w (DidC w S B g (unkC m) (unkM m)) := by
  obtain ⟨x0, x1, x2, x3, x4, x5, x6⟩ := h.cells.seven
  by_cases hl0 : m.ls.length = 0
  · have hc := Lib.hid (unk_none hl0)
    obtain ⟨A4, c4, hv4⟩ : ∃ A c, (S 4).v = .slice A m.ls.length c := by
      obtain ⟨xs, e4, hown4⟩ := h.rowL
      exact row_A hown4
    rw [hv4, hl0] at x5
    have HMV := Lib.hid (Mv.refl w S)
    clear h hB ok hv4 hl0
    go_enter Try.func39, Try.ntmps39
    go_wp2
    go_ret
    exact DidC.bad HMV.out hc.out (by omega)
  · obtain ⟨n, hn⟩ : ∃ n, m.ls.length = n + 1 := ⟨m.ls.length - 1, by omega⟩
    obtain ⟨x, hx⟩ : ∃ x, m.ls[n]? = some x := ⟨_, List.getElem?_eq_getElem (by omega)⟩
    have hgl : m.ls.getLast? = some x := by rw [List.getLast?_eq_getElem?, hn]; exact hx
    obtain ⟨lp, -⟩ := ok.last hgl
    obtain ⟨b4, cap4, hv4, hc4, hb4, -, hcl, Ap, cp, hvp⟩ := h.lastL hx
    rw [hvp] at hcl
    rw [hv4, hn] at x5
    obtain ⟨y0, y1, y2, y3, y4, y5⟩ := hcl.six
    have hU0 : UkS w S B g m n (.slice Ap x.ps.length cp) [] w S := ⟨h, Mv.refl w S, hvp, fun p hp => (by cases hp), hB, Nat.le_refl _⟩
    have hU1 := hU0.box [.int .i64 x.k, .int .i64 x.y, .int .i64 x.b, .int .i64 x.p, .int .i64 x.d, .slice Ap x.ps.length cp] 102
    have hU2 := hU1.box [.int .i64 x.b, .int .i64 x.p] 45
    rw [World.size_alloc] at hU2
    have HU2 := Lib.hid hU2
    have HLP := Lib.hid lp
    have HOK := Lib.hid ok
    have HX := Lib.hid hx
    have HGL := Lib.hid hgl
    have HN := Lib.hid hn
    have HQ := Lib.hid (l07On_any hU2.ms x.n lp.n)
    have hn4 : n + 1 ≤ cap4 := by omega
    have h300 : (n : Int) ≤ 300 := by have := ok.ls; omega
    clear h ok hl0 hx hgl lp hv4 hc4 hvp hU0 hU1 hU2 hcl hn
    go_enter Try.func39, Try.ntmps39
    go_wp2_with fail
    refine (HQ.out).mono ?_
    rintro e w1 ⟨rfl, hb1⟩
    have HU3 := Lib.hid (HU2.out.below hb1)
    clear HQ HU2 hb1 y0 y1 y2 y3 y4 y5 x0 x1 x2 x3 x4 x5 x6
    obtain ⟨hrd, ⟨Al, cl, hvl, hlc⟩, hown⟩ := HU3.out.ms.onR HLP.out.n
    rw [hvl] at hown ⊢
    have HV := Lib.hid hvl
    have HOW := Lib.hid hown
    clear hrd hvl hown
    go_upto_region 8 with fail
    go_cut [73] (fun s73 wx => ∃ (q : Bool) (wy : World), wy = wx ∧ s73 = .bool q ∧ Hid (q = !st1 m x) ∧ Hid (UkS w S B g m n (.slice Ap x.ps.length cp) [(w.heap.size + 1, [.int .i64 x.b, .int .i64 x.p]), (w.heap.size, [.int .i64 x.k, .int .i64 x.y, .int .i64 x.b, .int .i64 x.p, .int .i64 x.d, .slice Ap x.ps.length cp])] wx S))
    case first =>
      obtain ⟨z0, z1, z2, z3, z4, z5⟩ := CellsAt.six HU3.out.k1.1.1
      by_cases hL0 : (onL m x.n).length = 0
      · have HST := Lib.hid (st1_nil hL0)
        have hL0' : (((onL m x.n).length : Int) == 0) = true := by rw [hL0]; rfl
        clear hL0
        go_wp2
        go_meet
        case rel => exact ⟨true, _, rfl, rfl, by rw [HST.out]; rfl, HU3.out⟩
      · obtain ⟨p, hp⟩ : ∃ p, (onL m x.n).length = p + 1 := ⟨(onL m x.n).length - 1, by omega⟩
        obtain ⟨y, hy⟩ : ∃ y, (onL m x.n)[p]? = some y := ⟨_, List.getElem?_eq_getElem (by omega)⟩
        have HST := Lib.hid (st1_of HN.out hp hy)
        have hown := HOW.out
        obtain ⟨bl, capl, hvl2, -, -, -, -⟩ := row_slice hown (by omega)
        injection hvl2 with e1 _ e3
        subst e1 e3
        have hcy := (own_cellx hown (i := p) (u := .int .i64 y) (by unfold vI; rw [List.getElem?_map, hy]; rfl)).1
        have hL0' : (((onL m x.n).length : Int) == 0) = false := by simpa using hL0
        have hpi : ((onL m x.n).length : Int) - 1 = (p : Int) := by omega
        have hpl : p < (onL m x.n).length := by omega
        have hpl' : (p : Int) < ((onL m x.n).length : Int) := by omega
        have hl5 := HOK.out.on4 x.n
        have HP := Lib.hid hp
        clear hp hy hL0 hown
        by_cases hyn : y = (n : Int)
        · have hyn' : (y != (n : Int)) = false := by simpa using hyn
          have hyd : decide (y = (n : Int)) = true := by simpa using hyn
          rw [hyd, Bool.true_and] at HST
          clear hyn hyd
          by_cases h1 : 1 < (onL m x.n).length
          · have h1' : (1 : Int) < ((onL m x.n).length : Int) := by omega
            have hd1 : decide (p + 1 ≤ 1) = false := by have := HP.out; simp; omega
            rw [hd1, Bool.or_false] at HST
            clear h1 hd1
            rcases HLP.out.k with hk | hk | hk
            · rw [hk] at HST z0
              have HS2 := Lib.hid (show st1 m x = false from HST.out)
              clear HST hk
              go_wp2
              go_meet
              case rel => exact ⟨true, _, rfl, rfl, by rw [HS2.out]; rfl, HU3.out⟩
            · rw [hk] at HST z0
              have HS2 := Lib.hid (show st1 m x = true from HST.out)
              clear HST hk
              go_wp2
              go_meet
              case rel => exact ⟨false, _, rfl, rfl, by rw [HS2.out]; rfl, HU3.out⟩
            · rw [hk] at HST z0
              have HS2 := Lib.hid (show st1 m x = false from HST.out)
              clear HST hk
              go_wp2
              go_meet
              case rel => exact ⟨true, _, rfl, rfl, by rw [HS2.out]; rfl, HU3.out⟩
          · have h1' : ¬ (1 : Int) < ((onL m x.n).length : Int) := by omega
            have hd1 : decide (p + 1 ≤ 1) = true := by have := HP.out; simp; omega
            rw [hd1, Bool.or_true, Bool.true_and] at HST
            clear h1 hd1
            rcases HLP.out.k with hk | hk | hk
            · rw [hk] at HST z0
              have HS2 := Lib.hid (show st1 m x = offB m x.ps from HST.out)
              have HQO := Lib.hid (l12Off_any m g (.slice Ap x.ps.length cp) x.ps w1 HU3.out.ms.rd (okM_iff.2 HOK.out) (HU3.out.ps HX.out).1 (by have := HLP.out.len; omega))
              clear HST hk
              go_wp2_with fail
              refine (HQO.out).mono ?_
              rintro e w2 ⟨rfl, hb2⟩
              have HU4 := Lib.hid (HU3.out.below hb2)
              clear hb2 HQO z0 z1 z2 z3 z4 z5 hcy
              generalize offB m x.ps = ob at *
              go_wp2
              go_meet
              case rel => exact ⟨!ob, _, rfl, rfl, by rw [HS2.out]; rfl, HU4.out⟩
            · rw [hk] at HST z0
              have HS2 := Lib.hid (show st1 m x = true from HST.out)
              clear HST hk
              go_wp2
              go_meet
              case rel => exact ⟨false, _, rfl, rfl, by rw [HS2.out]; rfl, HU3.out⟩
            · rw [hk] at HST z0
              have HS2 := Lib.hid (show st1 m x = true from HST.out)
              clear HST hk
              go_wp2
              go_meet
              case rel => exact ⟨false, _, rfl, rfl, by rw [HS2.out]; rfl, HU3.out⟩
        · have hyn' : (y != (n : Int)) = true := by simpa using hyn
          have hyd : decide (y = (n : Int)) = false := by simpa using hyn
          rw [hyd, Bool.false_and] at HST
          clear hyn hyd
          go_wp2
          go_meet
          case rel => exact ⟨true, _, rfl, rfl, by rw [HST.out]; rfl, HU3.out⟩
    case rest =>
      obtain ⟨q, w2, rfl, rfl, hq, HU4⟩ := hcut
      cases q
      case true =>
        have hst : st1 m x = false := by have := hq.out; revert this; cases st1 m x <;> simp
        have hc := Lib.hid (unk_bad HGL.out (by rw [stB_st1, hst]; rfl))
        clear hst hq
        go_wp2
        go_ret
        exact DidC.bad HU4.out.mv hc.out (by omega)
      case false =>
        have hst : st1 m x = true := by have := hq.out; revert this; cases st1 m x <;> simp
        have HSB := Lib.hid (show stB m x = (!decide (x.k = 5) || holdB m x.n x.ps) by rw [stB_st1, hst, Bool.true_and])
        clear hst hq
        have hzlt : w.heap.size + 1 < w2.heap.size := HU4.out.k0.1.2.2
        have HU5 := Lib.hid (HU4.out.below ((Below.refl w2.heap.size w2).alloc (Nat.le_refl _) (.cells #[] 2)))
        have HLI := Lib.hid (lit0 w2)
        obtain ⟨z0, z1, z2, z3, z4, z5⟩ := CellsAt.six HU5.out.k1.1.1
        obtain ⟨v0, v1⟩ := HU5.out.k0.1.two
        go_upto_if 77 with fail
        go_cut [8] (fun s8 wx => ∃ (u : Value) (wy : World), wy = wx ∧ u = s8 ∧ (x.k = 5 → holdB m x.n x.ps = true ∧ wx.ownsRow w2.heap.size 2 1 u (ukRest m x.n x.ps).length (vI (ukRest m x.n x.ps))) ∧ Hid (UkS w S B g m n (.slice Ap x.ps.length cp) [(w.heap.size + 1, [.int .i64 x.b, .int .i64 x.p]), (w.heap.size, [.int .i64 x.k, .int .i64 x.y, .int .i64 x.b, .int .i64 x.p, .int .i64 x.d, .slice Ap x.ps.length cp])] wx S))
        case first =>
          by_cases hk5 : x.k = 5
          · have hk5' : (x.k == 5) = true := by simpa using hk5
            have HK5 := Lib.hid hk5
            have HQB := Lib.hid (l12Back_any HU5.out.ms HOK.out x.n HLP.out.b HLP.out.p0 (by have := HLP.out.p1; have := HOK.out.wd; show x.p ≤ 100; omega) _ x.ps (HU5.out.ps HX.out).1 HLP.out.len)
            clear hk5
            go_wp2_with fail
            refine (HQB.out).mono ?_
            rintro e w3 ⟨u, rfl, hu, hb3⟩
            have HU6 := Lib.hid (HU5.out.below hb3)
            clear hb3 HQB z0 z1 z2 z3 z4 z5 v0 v1
            cases hh : holdB m x.n x.ps
            · have hc := Lib.hid (unk_bad HGL.out (by rw [HSB.out, HK5.out, hh]; rfl))
              clear hh hu
              go_wp2
              go_ret
              exact DidC.bad HU6.out.mv hc.out (by omega)
            · have HR := Lib.hid (own_base (hu hh) (show w2.heap.size ≤ _ by simp))
              have HH := Lib.hid hh
              clear hu hh
              go_wp2
              go_meet
              case rel => exact ⟨u, w3, rfl, rfl, fun _ => ⟨HH.out, HR.out⟩, HU6.out⟩
          · have hk5' : (x.k == 5) = false := by simpa using hk5
            have HK5 := Lib.hid hk5
            clear hk5
            go_wp2
            go_meet
            case rel => exact ⟨_, _, rfl, rfl, fun h => absurd h HK5.out, HU5.out⟩
        case rest =>
          obtain ⟨u, w4, rfl, rfl, hu5, HU7⟩ := hcut
          have HR5 := Lib.hid hu5
          clear hu5 HU5 HLI z0 z1 z2 z3 z4 z5 v0 v1
          obtain ⟨j, hyj⟩ : ∃ j : Nat, x.y - 1 = (j : Int) := ⟨(x.y - 1).toNat, by have := HLP.out.y; omega⟩
          have hyt : (x.y - 1).toNat = j := by omega
          obtain ⟨y1, y4⟩ := HLP.out.y
          have hcs := HOK.out.cs
          have hjl : (j : Int) < 4 := by omega
          have hj0 : (0 : Int) ≤ (j : Int) := by omega
          obtain ⟨bc, cpc, hvc, hblc, -, hbwc, hoc, hc0, hc1, hfc⟩ := HU7.out.ms.cars x.y y1 (by omega)
          rw [hyt] at hc0 hc1
          rw [hcs] at hvc
          obtain ⟨x0, x1, x2, x3, x4, x5, x6⟩ := HU7.out.ms.cells.seven
          rw [hvc] at x4
          obtain ⟨z0, z1, z2, z3, z4, z5⟩ := CellsAt.six HU7.out.k1.1.1
          have HOC := Lib.hid hoc
          have HCS := Lib.hid hcs
          clear hvc hoc hcs
          go_wp2
          go_quiet (fail)
          have HU8 := Lib.hid (HU7.out.drewN nq)
          have HR8 : Hid (x.k = 5 → holdB m x.n x.ps = true ∧ (w4.drewN nq).ownsRow w2.heap.size 2 1 u (ukRest m x.n x.ps).length (vI (ukRest m x.n x.ps))) := HR5.out
          clear x0 x1 x2 x3 x4 x5 x6 z0 z1 z2 z3 z4 z5 hc0 hc1 hfc HR5 HU7
          generalize w4.drewN nq = w5 at *
          clear nq
          obtain ⟨r0, r1⟩ := HOK.out.rk
          have p0 := HLP.out.p0
          have p1 := HLP.out.p1
          have hwd := HOK.out.wd
          have x1 : ∀ X, (wgrow w5 X).cell? ⟨g, 0 + 1, none⟩ = some (.int .i64 m.rk) := fun X => HU8.out.ms.cells.grow X 1 _ rfl
          obtain ⟨v0, v1⟩ := CellsAt.grow2 HU8.out.k0.1.1
          have HQP := Lib.hid (fun X => l07Place_any x.b x.p m.rk (by omega) (by omega) (by omega) (by omega) X)
          have hPb : -100 ≤ plc x.b x.p m.rk ∧ plc x.b x.p m.rk ≤ 100 := by unfold plc; split <;> omega
          have HFR := Lib.hid (show ukFrom m x = plc x.b x.p m.rk + (if x.d = -1 then 1 else 0) from rfl)
          have HTO := Lib.hid (show ukTo m x = plc x.b x.p m.rk + (if x.d = -1 then 0 else 1) from rfl)
          generalize plc x.b x.p m.rk = P at *
          obtain ⟨P0, P1⟩ := hPb
          clear p0 p1 hwd r0 r1
          go_wp2
          refine wp_region_grow (by kernel_rfl) (by kernel_rfl) ?_
          repeat (go_big_quiet_step ((go_at_call 89; exact calls_grow (HQP.out _))))
          refine wpQuiet_nil ?_
          intro w6 hb6
          have HU9 := Lib.hid (HU8.out.below hb6)
          have HR9 : Hid (x.k = 5 → holdB m x.n x.ps = true ∧ w6.ownsRow w2.heap.size 2 1 u (ukRest m x.n x.ps).length (vI (ukRest m x.n x.ps))) := fun h => ⟨(HR8.out h).1, own_below (HR8.out h).2 hb6⟩
          clear hb6 x1 v0 v1 HR8 HU8 HQP
          obtain ⟨z0, z1, z2, z3, z4, z5⟩ := CellsAt.six HU9.out.k1.1.1
          go_upto_if 108 with fail
          go_cut [13, 14] (fun s13 s14 wx => w6 = wx ∧ s13 = .int .i64 (ukFrom m x) ∧ s14 = .int .i64 (ukTo m x))
          case first =>
            rcases HLP.out.d with hd | hd
            · have H1 := Lib.hid (show ukFrom m x = P by rw [HFR.out, if_neg (by omega)]; omega)
              have H2 := Lib.hid (show ukTo m x = P + 1 by rw [HTO.out, if_neg (by omega)])
              have hd' : (x.d == -1) = false := by simp; omega
              clear hd
              go_wp2
              go_meet
              case rel => exact ⟨rfl, by rw [H1.out], by rw [H2.out]⟩
            · have H1 := Lib.hid (show ukFrom m x = P + 1 by rw [HFR.out, if_pos hd])
              have H2 := Lib.hid (show ukTo m x = P by rw [HTO.out, if_pos hd]; omega)
              have hd' : (x.d == -1) = true := by simpa using hd
              clear hd
              go_wp2
              go_meet
              case rel => exact ⟨rfl, by rw [H1.out], by rw [H2.out]⟩
          case rest =>
            obtain ⟨rfl, rfl, rfl⟩ := hcut
            clear HFR HTO
            have hCR : crB m x = ((carAt m x.y).i && decide ((carAt m x.y).p = ukTo m x)) := rfl
            have HCR := Lib.hid hCR
            obtain ⟨bc', cpc, hvc, hblc', -, hbwc', hoc', hc0, hc1, hfc⟩ := HU9.out.ms.cars x.y y1 (by have := HCS.out; omega)
            rw [HOC.out] at hoc'
            injection hoc' with hoc'
            subst hoc'
            rw [hyt] at hc0 hc1
            have HSET := Lib.hid (HU9.out.ms.setCp2 (c := x.y) y1 (by have := HCS.out; omega) HOC.out (ukFrom m x))
            rw [hyt] at HSET
            have HFIN := Lib.hid (unk_to HGL.out)
            generalize hfr : ukFrom m x = FR at *
            generalize ukTo m x = TO at *
            generalize (carAt m x.y).p = pp at *
            generalize hci : (carAt m x.y).i = ci at *
            have HSB2 : Hid (stB m x = true) := by
              unfold Hid
              rw [HSB.out]
              by_cases hk5 : x.k = 5
              · rw [(HR9.out hk5).1, Bool.or_true]
              · simp [hk5]
            clear hCR hvc hci
            cases ci
            · have hc := Lib.hid (unk_car HGL.out HSB2.out (by rw [HCR.out]; rfl))
              go_wp2
              go_ret
              exact DidC.bad HU9.out.mv hc.out (by omega)
            · by_cases hpp : pp = TO
              · subst hpp
                have hc := Lib.hid (unk_ok HGL.out HSB2.out (by rw [HCR.out]; simp))
                have hnn : (pp != pp) = false := by simp
                obtain ⟨S1, hm1, hv1, hs1⟩ := HSET.out
                have HU10 := Lib.hid (HU9.out.same hm1 hv1 hs1)
                have hbz : bc ≠ w.heap.size := fun e => HU9.out.k1.2 (by rw [← e]; exact hblc')
                have hfz := far_cell hbz
                have HR10 : Hid (x.k = 5 → holdB m x.n x.ps = true ∧ (w6.setCell ⟨bc, j * 2 + 1, none⟩ (.int .i64 FR)).ownsRow w2.heap.size 2 1 u (ukRest m x.n x.ps).length (vI (ukRest m x.n x.ps))) := fun h => ⟨(HR9.out h).1, own_far (p := ⟨bc, j * 2 + 1, none⟩) (HR9.out h).2 (fun e => by have e' : u.ownBlock = some bc := e; have := (World.ownsRow.lt (HR9.out h).2 _ e').1; have h9 := (HU4.out.ms.sp.ge hblc').2; omega) (.int .i64 FR)⟩
                have hff := hfc (j * 2 + 1)
                have HS1 := Lib.hid hs1
                have hn1 : ndIn (setC m x.y ⟨true, FR⟩) x.n := HLP.out.n
                have HNF : Hid (ukFrom m x = FR) := hfr
                clear hm1 hv1 hs1 HSET hfr
                rcases HLP.out.k with hk | hk | hk
                · have HUL := Lib.hid (show unkL (setC m x.y ⟨true, FR⟩) x = setL (setC m x.y ⟨true, FR⟩) x.n x.ps by unfold unkL; rw [if_neg (by omega), if_neg (by omega)])
                  rw [hk] at z0
                  clear hk
                  go_wp2
                  clear hfz hff hc0 hc1 z0 z1 z2 z3 z4 z5 HR10
                  generalize w6.setCell ⟨bc, j * 2 + 1, none⟩ (.int .i64 FR) = w7 at *
                  obtain ⟨v0, v1⟩ := HU10.out.k0.1.two
                  obtain ⟨z0, z1, z2, z3, z4, z5⟩ := CellsAt.six HU10.out.k1.1.1
                  have HQO := Lib.hid (l00OwnR_any (.slice Ap x.ps.length cp) x.ps w7.drew (HU10.out.ps (x := x) HX.out).1 (by have := HLP.out.len; omega))
                  have hwl := HU10.out.lo
                  go_region_held3 (fun w' => w'.cell? ⟨w.heap.size + 1, 0, none⟩ = some (.int .i64 x.b) ∧ w'.cell? ⟨w.heap.size + 1, 1, none⟩ = some (.int .i64 x.p) ∧ w'.cell? ⟨w.heap.size, 5, none⟩ = some (.slice Ap x.ps.length cp))
                    (first | exact ⟨v0, v1, z5⟩ | exact ⟨q0, q1, q5⟩ | exact ⟨t0, t1, t5⟩ | go_keep)
                    (first
                      | (go_at_call 85; refine (HQO.out).mono ?_; rintro e wo ⟨vo, rfl, hoo, hbo⟩; have hbo' : Below w7.heap.size w7 wo := (Below.refl _ w7).drew.trans hbo; have hUo := HU10.out.below hbo'; obtain ⟨q0, q1⟩ := hUo.k0.1.two; have q5 := (CellsAt.six hUo.k1.1.1).2.2.2.2.2; have hgo : ∀ q, vo.ownBlock = some q → w7.heap.size ≤ q := fun q hq => (World.ownsRow.lt hoo q hq).1; have hqs := l07Set_v hUo.ms x.n hn1 vo x.ps (hUo.ms.sp.putX _ (own_base hoo (show B ≤ w7.heap.size by omega)) (fun q hq e => by have h1 := (HU10.out.ms.sp.ge e).2; have h2 := hgo q hq; omega)))
                      | (go_at_call 90; refine hqs.mono ?_; rintro e wz ⟨rfl, Sz, hmz, hvz, hsz, -⟩; have hUz := hUo.set hmz hvz hsz (by unfold iN iF iB iP; split <;> omega) (fun q hq => ⟨.inr (by have h2 := hgo q hq; omega), fun r hr e => by have h1 := (HU10.out.bx r hr).1.2.2; have h2 := hgo q hq; omega⟩); obtain ⟨t0, t1⟩ := hUz.k0.1.two; have t5 := (CellsAt.six hUz.k1.1.1).2.2.2.2.2))
                  have HUZ := Lib.hid hUz
                  clear hUz hmz hvz hsz hqs hUo hgo hoo hbo hbo' t0 t1 t5 q0 q1 q5 v0 v1 z0 z1 z2 z3 z4 z5 hwl
                  have hls9 : ∀ (M : Mc), M.ls = m.ls → M.ls[n]? = some x ∧ M.ls.length = n + 1 := fun M e => by rw [e]; exact ⟨HX.out, HN.out⟩
                  obtain ⟨b5, cap5, hv5, hc5, -, -, -, -⟩ := HUZ.out.ms.lastL (n := n) (x := x) (hls9 _ (by simp only [setL_ls, setC_ls])).1
                  have hlz := (hls9 _ (show (setL (setC m x.y ⟨true, FR⟩) x.n x.ps).ls = m.ls by simp only [setL_ls, setC_ls])).2
                  obtain ⟨x0, x1, x2, x3, x4, x5, x6⟩ := HUZ.out.ms.cells.seven
                  rw [hv5, hlz] at x5
                  have hfg := HUZ.out.ms.frozen 5
                  have hCUT := HUZ.out.ms.cutL2 hv5 (k := n) (by rw [hlz]; omega)
                  have HFIN2 : Hid (DidC w S B g (unkC m) (unkM m) (.returned (.int .i64 0)) (wz.setCell ⟨g, 5, none⟩ (.slice (some ⟨b5, 0, none⟩) n cap5))) := by
                    obtain ⟨S', e1, e2⟩ := hCUT
                    refine ⟨by rw [hc.out], S', HUZ.out.mv.trans e2, fun _ => ?_⟩
                    rw [HFIN.out]
                    have e3 : cutLs (setL (setC m x.y ⟨true, FR⟩) x.n x.ps) = { (setL (setC m x.y ⟨true, FR⟩) x.n x.ps) with ls := (setL (setC m x.y ⟨true, FR⟩) x.n x.ps).ls.take n } := by unfold cutLs; rw [hlz]; rfl
                    rw [show unkL (setC m x.y ⟨true, FR⟩) x = setL (setC m x.y ⟨true, FR⟩) x.n x.ps from HUL.out, e3]
                    exact e1
                  have hcn : (n : Int) ≤ (cap5 : Int) := by rw [hlz] at hc5; omega
                  have hn0 : (0 : Int) ≤ (n : Int) := by omega
                  clear hCUT hv5 hc5 hlz hls9
                  go_wp2
                  go_ret
                  exact HFIN2.out
                · obtain ⟨p, hp⟩ : ∃ p, (onL m x.n).length = p + 1 := by
                    rcases Nat.eq_zero_or_pos (onL m x.n).length with e | e
                    · have h1 := HSB2.out
                      rw [stB_st1, st1_nil e] at h1
                      cases h1
                    · exact ⟨(onL m x.n).length - 1, by omega⟩
                  have hdl : (onL m x.n).dropLast = (onL m x.n).take p := by rw [List.dropLast_eq_take, hp]; rfl
                  have HUL := Lib.hid (show unkL (setC m x.y ⟨true, FR⟩) x = setL (setC m x.y ⟨true, FR⟩) x.n ((onL m x.n).take p) by unfold unkL; rw [if_pos hk, ← hdl]; rfl)
                  obtain ⟨bl, capl, hvl2, -, -, -, -⟩ := row_slice HOW.out (by omega)
                  injection hvl2 with e1 _ e3
                  subst e1 e3
                  have hl4 := HOK.out.on4 x.n
                  have hlc' : (onL m x.n).length ≤ cl := hlc
                  clear hlc
                  generalize hln : (onL m x.n).length = ln at *
                  have HLN := Lib.hid hln
                  have hpi : (ln : Int) - 1 = (p : Int) := by omega
                  have hp0 : (0 : Int) ≤ (p : Int) := by omega
                  have hpc : (p : Int) ≤ (cl : Int) := by omega
                  have hpl : (p : Int) ≤ (ln : Int) := by omega
                  have hlci : (ln : Int) ≤ (cl : Int) := by omega
                  have HP := Lib.hid hp
                  have hw1 : IntKind.i64.wrap ((ln : Int) - 1) = (p : Int) := by rw [hpi]; exact wrap_sm (by omega) (by omega)
                  have hw2 : IntKind.i64.wrap (p : Int) = (p : Int) := wrap_sm (by omega) (by omega)
                  clear hln
                  rw [hk] at z0
                  clear hk hp hdl
                  go_wp2
                  clear hfz hff hc0 hc1 z0 z1 z2 z3 z4 z5 HR10
                  generalize w6.setCell ⟨bc, j * 2 + 1, none⟩ (.int .i64 FR) = w7 at *
                  have hrd7 := (HU10.out.ms.onR (n := x.n) hn1).1
                  rw [HS1.out, HV.out] at hrd7
                  have HQO := Lib.hid (l00OwnR_any (.slice (some ⟨bl, 0, none⟩) p cl) ((onL m x.n).take p) w7.drew (RdI.take hrd7 (k := p) (by have := HP.out; omega)) (by rw [List.length_take]; have := HP.out; have := HLN.out; omega))
                  obtain ⟨v0, v1⟩ := HU10.out.k0.1.two
                  have hwl := HU10.out.lo
                  clear hrd7
                  go_region_held3 (fun w' => w'.cell? ⟨w.heap.size + 1, 0, none⟩ = some (.int .i64 x.b) ∧ w'.cell? ⟨w.heap.size + 1, 1, none⟩ = some (.int .i64 x.p))
                    (first | exact ⟨v0, v1⟩ | exact ⟨q0, q1⟩ | exact ⟨t0, t1⟩ | go_keep)
                    (first
                      | (go_at_call 85; refine (HQO.out).mono ?_; rintro e wo ⟨vo, rfl, hoo, hbo⟩; have hbo' : Below w7.heap.size w7 wo := (Below.refl _ w7).drew.trans hbo; have hUo := HU10.out.below hbo'; obtain ⟨q0, q1⟩ := hUo.k0.1.two; have hgo : ∀ q, vo.ownBlock = some q → w7.heap.size ≤ q := fun q hq => (World.ownsRow.lt hoo q hq).1; have hqs := l07Set_v hUo.ms x.n hn1 vo ((onL m x.n).take p) (hUo.ms.sp.putX _ (own_base hoo (show B ≤ w7.heap.size by omega)) (fun q hq e => by have h1 := (HU10.out.ms.sp.ge e).2; have h2 := hgo q hq; omega)))
                      | (go_at_call 90; refine hqs.mono ?_; rintro e wz ⟨rfl, Sz, hmz, hvz, hsz, -⟩; have hUz := hUo.set hmz hvz hsz (by unfold iN iF iB iP; split <;> omega) (fun q hq => ⟨.inr (by have h2 := hgo q hq; omega), fun r hr e => by have h1 := (HU10.out.bx r hr).1.2.2; have h2 := hgo q hq; omega⟩); obtain ⟨t0, t1⟩ := hUz.k0.1.two))
                  have HUZ := Lib.hid hUz
                  clear hUz hmz hvz hsz hqs hUo hgo hoo hbo hbo' t0 t1 q0 q1 v0 v1 hwl
                  have hls9 : ∀ (M : Mc), M.ls = m.ls → M.ls[n]? = some x ∧ M.ls.length = n + 1 := fun M e => by rw [e]; exact ⟨HX.out, HN.out⟩
                  obtain ⟨b5, cap5, hv5, hc5, -, -, -, -⟩ := HUZ.out.ms.lastL (n := n) (x := x) (hls9 _ (by simp only [setL_ls, setC_ls])).1
                  have hlz := (hls9 _ (show (setL (setC m x.y ⟨true, FR⟩) x.n ((onL m x.n).take p)).ls = m.ls by simp only [setL_ls, setC_ls])).2
                  obtain ⟨x0, x1, x2, x3, x4, x5, x6⟩ := HUZ.out.ms.cells.seven
                  rw [hv5, hlz] at x5
                  have hfg := HUZ.out.ms.frozen 5
                  have hCUT := HUZ.out.ms.cutL2 hv5 (k := n) (by rw [hlz]; omega)
                  have HFIN2 : Hid (DidC w S B g (unkC m) (unkM m) (.returned (.int .i64 0)) (wz.setCell ⟨g, 5, none⟩ (.slice (some ⟨b5, 0, none⟩) n cap5))) := by
                    obtain ⟨S', e1, e2⟩ := hCUT
                    refine ⟨by rw [hc.out], S', HUZ.out.mv.trans e2, fun _ => ?_⟩
                    rw [HFIN.out]
                    have e3 : cutLs (setL (setC m x.y ⟨true, FR⟩) x.n ((onL m x.n).take p)) = { (setL (setC m x.y ⟨true, FR⟩) x.n ((onL m x.n).take p)) with ls := (setL (setC m x.y ⟨true, FR⟩) x.n ((onL m x.n).take p)).ls.take n } := by unfold cutLs; rw [hlz]; rfl
                    rw [show unkL (setC m x.y ⟨true, FR⟩) x = setL (setC m x.y ⟨true, FR⟩) x.n ((onL m x.n).take p) from HUL.out, e3]
                    exact e1
                  have hcn : (n : Int) ≤ (cap5 : Int) := by rw [hlz] at hc5; omega
                  have hn0 : (0 : Int) ≤ (n : Int) := by omega
                  clear hCUT hv5 hc5 hlz hls9
                  go_wp2
                  go_ret
                  exact HFIN2.out
                · obtain ⟨hh, hrow⟩ := HR10.out hk
                  have hfi : fcIn m x.n = true := by unfold holdB at hh; simp only [Bool.and_eq_true] at hh; exact hh.1
                  have hnf : ndIn (setC m x.y ⟨true, FR⟩) (fcN m x.n) := HOK.out.fc HLP.out.b hfi
                  have HUL := Lib.hid (show unkL (setC m x.y ⟨true, FR⟩) x = setL (setL (setC m x.y ⟨true, FR⟩) (fcN m x.n) (ukRest m x.n x.ps)) x.n x.ps by unfold unkL; rw [if_neg (by omega), if_pos hk]; rfl)
                  have HROW := Lib.hid hrow
                  have hwd := HOK.out.wd
                  have hp1 := HLP.out.p1
                  have HQF := Lib.hid (l12Facing_any HU10.out.ms x.n HLP.out.b HLP.out.p0 (show x.p ≤ 100 by omega) HOK.out.rk ⟨show 0 ≤ m.wd by omega, show m.wd ≤ 100 by omega⟩)
                  rw [show fcN (setC m x.y ⟨true, FR⟩) x.n = fcN m x.n from rfl, show fcIn (setC m x.y ⟨true, FR⟩) x.n = fcIn m x.n from rfl] at HQF
                  rw [hk] at z0
                  have hbz1 : bc ≠ w.heap.size + 1 := fun e => HU9.out.k0.2 (by rw [← e]; exact hblc')
                  have hfz1 := far_cell hbz1
                  obtain ⟨v0, v1⟩ := HU9.out.k0.1.two
                  clear hk hh hfi hrow hwd hp1
                  go_wp2_with fail
                  refine (HQF.out).mono ?_
                  rintro e w8 ⟨rfl, hb8⟩
                  have HU11 := Lib.hid (HU10.out.below hb8)
                  have HU12 := Lib.hid (HU11.out.box [.int .i64 (fcN m x.n).1, .int .i64 (fcN m x.n).2] 45)
                  have hrow8 := own_below HROW.out hb8
                  have hlt8 : ∀ q, u.ownBlock = some q → w2.heap.size ≤ q ∧ q < w8.heap.size := fun q hq => World.ownsRow.lt hrow8 q hq
                  have HLT8 := Lib.hid hlt8
                  have hw2b : B ≤ w2.heap.size := by have := HU4.out.lo; omega
                  have HQS := Lib.hid (l07Set_v HU12.out.ms (fcN m x.n) hnf u (ukRest m x.n x.ps) (HU12.out.ms.sp.putX _ (own_base (hrow8.alloc _) hw2b) (fun q hq e => by have h1 := (HU4.out.ms.sp.ge (S1_blk HS1.out e)).2; have h2 := (HLT8.out q hq).1; omega)))
                  clear hb8 hfz hff hc0 hc1 z0 z1 z2 z3 z4 z5 HR10 hrow8 hlt8 HQF
                  go_wp2_with fail
                  refine (HQS.out).mono ?_
                  rintro e w9 ⟨rfl, S9, hm9, hv9, hs9, -⟩
                  have HU13 := Lib.hid (HU12.out.set hm9 hv9 hs9 (by unfold iN iF iB iP; split <;> omega) (fun q hq => ⟨.inr (by have h2 := (HLT8.out q hq).1; have h3 := HU4.out.lo; omega), fun r hr e => by
                    have h2 := HLT8.out q hq
                    simp only [List.mem_cons, List.not_mem_nil, or_false] at hr
                    rcases hr with rfl | rfl | rfl
                    · have : q = w8.heap.size := e; omega
                    · have : q = w.heap.size + 1 := e; omega
                    · have : q = w.heap.size := e; omega⟩))
                  have hn2 : ndIn (setL (setC m x.y ⟨true, FR⟩) (fcN m x.n) (ukRest m x.n x.ps)) x.n := ndIn_set _ hn1
                  have hx9 : (setL (setC m x.y ⟨true, FR⟩) (fcN m x.n) (ukRest m x.n x.ps)).ls[n]? = some x := by simp only [setL_ls, setC_ls]; exact HX.out
                  have HX9 := Lib.hid hx9
                  clear hm9 hv9 hs9 HQS hx9 hw2b
                  go_wp2
                  obtain ⟨v0, v1⟩ := HU13.out.k1.1.two
                  obtain ⟨z0, z1, z2, z3, z4, z5⟩ := CellsAt.six HU13.out.k2.1.1
                  have HQO := Lib.hid (l00OwnR_any (.slice Ap x.ps.length cp) x.ps w9.drew (HU13.out.ps (x := x) HX9.out).1 (by have := HLP.out.len; omega))
                  have hwl := HU13.out.lo
                  go_region_held3 (fun w' => w'.cell? ⟨w.heap.size + 1, 0, none⟩ = some (.int .i64 x.b) ∧ w'.cell? ⟨w.heap.size + 1, 1, none⟩ = some (.int .i64 x.p) ∧ w'.cell? ⟨w.heap.size, 5, none⟩ = some (.slice Ap x.ps.length cp))
                    (first | exact ⟨v0, v1, z5⟩ | exact ⟨q0, q1, q5⟩ | exact ⟨t0, t1, t5⟩ | go_keep)
                    (first
                      | (go_at_call 85; refine (HQO.out).mono ?_; rintro e wo ⟨vo, rfl, hoo, hbo⟩; have hbo' : Below w9.heap.size w9 wo := (Below.refl _ w9).drew.trans hbo; have hUo := HU13.out.below hbo'; obtain ⟨q0, q1⟩ := hUo.k1.1.two; have q5 := (CellsAt.six hUo.k2.1.1).2.2.2.2.2; have hgo : ∀ q, vo.ownBlock = some q → w9.heap.size ≤ q := fun q hq => (World.ownsRow.lt hoo q hq).1; have hqs := l07Set_v hUo.ms x.n hn2 vo x.ps (hUo.ms.sp.putX _ (own_base hoo (show B ≤ w9.heap.size by omega)) (fun q hq e => by have h1 := (HU13.out.ms.sp.ge e).2; have h2 := hgo q hq; omega)))
                      | (go_at_call 90; refine hqs.mono ?_; rintro e wz ⟨rfl, Sz, hmz, hvz, hsz, -⟩; have hUz := hUo.set hmz hvz hsz (by unfold iN iF iB iP; split <;> omega) (fun q hq => ⟨.inr (by have h2 := hgo q hq; omega), fun r hr e => by have h1 := (HU13.out.bx r hr).1.2.2; have h2 := hgo q hq; omega⟩); obtain ⟨t0, t1⟩ := hUz.k1.1.two; have t5 := (CellsAt.six hUz.k2.1.1).2.2.2.2.2))
                  have HUZ := Lib.hid hUz
                  clear hUz hmz hvz hsz hqs hUo hgo hoo hbo hbo' t0 t1 t5 q0 q1 q5 v0 v1 z0 z1 z2 z3 z4 z5 hwl
                  have hls9 : ∀ (M : Mc), M.ls = m.ls → M.ls[n]? = some x ∧ M.ls.length = n + 1 := fun M e => by rw [e]; exact ⟨HX.out, HN.out⟩
                  obtain ⟨b5, cap5, hv5, hc5, -, -, -, -⟩ := HUZ.out.ms.lastL (n := n) (x := x) (hls9 _ (by simp only [setL_ls, setC_ls])).1
                  have hlz := (hls9 _ (show (setL (setL (setC m x.y ⟨true, FR⟩) (fcN m x.n) (ukRest m x.n x.ps)) x.n x.ps).ls = m.ls by simp only [setL_ls, setC_ls])).2
                  obtain ⟨x0, x1, x2, x3, x4, x5, x6⟩ := HUZ.out.ms.cells.seven
                  rw [hv5, hlz] at x5
                  have hfg := HUZ.out.ms.frozen 5
                  have hCUT := HUZ.out.ms.cutL2 hv5 (k := n) (by rw [hlz]; omega)
                  have HFIN2 : Hid (DidC w S B g (unkC m) (unkM m) (.returned (.int .i64 0)) (wz.setCell ⟨g, 5, none⟩ (.slice (some ⟨b5, 0, none⟩) n cap5))) := by
                    obtain ⟨S', e1, e2⟩ := hCUT
                    refine ⟨by rw [hc.out], S', HUZ.out.mv.trans e2, fun _ => ?_⟩
                    rw [HFIN.out]
                    have e3 : cutLs (setL (setL (setC m x.y ⟨true, FR⟩) (fcN m x.n) (ukRest m x.n x.ps)) x.n x.ps) = { (setL (setL (setC m x.y ⟨true, FR⟩) (fcN m x.n) (ukRest m x.n x.ps)) x.n x.ps) with ls := (setL (setL (setC m x.y ⟨true, FR⟩) (fcN m x.n) (ukRest m x.n x.ps)) x.n x.ps).ls.take n } := by unfold cutLs; rw [hlz]; rfl
                    rw [show unkL (setC m x.y ⟨true, FR⟩) x = setL (setL (setC m x.y ⟨true, FR⟩) (fcN m x.n) (ukRest m x.n x.ps)) x.n x.ps from HUL.out, e3]
                    exact e1
                  have hcn : (n : Int) ≤ (cap5 : Int) := by rw [hlz] at hc5; omega
                  have hn0 : (0 : Int) ≤ (n : Int) := by omega
                  clear hCUT hv5 hc5 hlz hls9
                  go_wp2
                  go_ret
                  exact HFIN2.out
              · have hc := Lib.hid (unk_car HGL.out HSB2.out (by rw [HCR.out]; simp [hpp]))
                have hnn : (pp != TO) = true := by simpa using hpp
                clear hpp
                go_wp2
                go_ret
                exact DidC.bad HU9.out.mv hc.out (by omega)

end Go.Proofs.Ytmcalioldphfeaa
