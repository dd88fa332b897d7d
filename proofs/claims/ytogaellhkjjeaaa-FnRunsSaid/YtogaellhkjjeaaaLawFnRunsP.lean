/-
  Proved: what comes undone without a loop includes all loops whose children come undone, and nothing that is on another needle, and a machine is secure exactly if nothing comes undone, whatever the bytes are: the law answers true. No condition.
-/
import Derived.Test.YtogaellhkjjeaaaPk5
import Derived.Test.YtogaellhkjjeaaaPk3
namespace Go.Proofs.Ytogaellhkjjeaaa
set_option linter.unusedVariables false
set_option linter.unusedSimpArgs false
open Go.ChangeShapes Go.WideShapes Go.ChangeAt Go.RowKit Go.Deep

set_option maxHeartbeats 4000000 in
set_option maxRecDepth 100000 in
theorem specLive_any (v : Value) (m : Mc) (w : World) (hl : RdM w w.heap.size v m) (hf : FitM m) :
    Calls Try.prog 28 #[v] w (GivesC w 2 1 (okList (okC m) (liveL m)).length (vI (okList (okC m) (liveL m))) (okC m)) := by
  have hdr := hf.dr
  have hl0 := hl
  obtain ⟨f, b, cs, ls, d, rfl, h1, h2, h3, h4, h5, h6⟩ := hl
  obtain ⟨AF, cF, rfl⟩ := RdN.shape h1
  obtain ⟨AG, cG, rfl⟩ := RdN.shape h2
  obtain ⟨AC, cC, rfl⟩ := RdS.lens h3
  obtain ⟨AI, cI, rfl⟩ := RdN.shape h4
  obtain ⟨AD, cD, rfl⟩ := RdI.len h5
  have BW := Lib.hid (show Below w.heap.size w (w.alloc (.cells #[.int .i64 m.wd, .int .i64 m.rk, .slice AF m.fr.length cF, .slice AG m.bk.length cG, .slice AC m.cs.length cC, .slice AI m.ls.length cI, .slice AD m.dr.length cD] 29)) from (Below.refl _ _).alloc (Nat.le_refl _) _)
  have HP := Lib.hid (RdP.box (T := 29) h1 h2 h3 h4 h5 h6)
  have HM := Lib.hid (hl0.up BW.out BW.out.size)
  clear h1 h2 h3 h4 h5 h6 hl0
  have HQ := Lib.hid (l07Ok_p m _ _ HP.out hdr)
  cases hok : okM m
  · have HN := Lib.hid (fun w' hb => (show Below w.heap.size w w' → GivesC w 2 1 (okList (okC m) (liveL m)).length (vI (okList (okC m) (liveL m))) (okC m) (.returned (.tuple #[.slice none 0 0, .int .i64 1])) w' from fun hb => by rw [okC_no hok]; exact GivesC.nil (by decide) rfl hb) hb)
    have HK := Lib.hid hok
    clear hok
    go_enter Try.func28, Try.ntmps28
    go_wp2_with fail
    refine HQ.out.mono ?_
    rintro e w1 ⟨rfl, hb⟩
    rw [HK.out]
    have HB := Lib.hid (BW.out.trans (hb.mono BW.out.size))
    clear hb
    go_wp2
    go_ret2
    exact HN.out _ HB.out
  have HOK := Lib.hid hok
  have h300 := ls_len hok
  clear hok
  go_enter Try.func28, Try.ntmps28
  go_wp2_with fail
  refine HQ.out.mono ?_
  rintro e w1 ⟨rfl, hb⟩
  rw [HOK.out]
  have HB := Lib.hid (BW.out.trans (hb.mono BW.out.size))
  have HP1 := Lib.hid (HP.out.below hb)
  clear hb HM HP HQ
  go_wp2_with fail
  refine (l07Live_any m _ _ HP1.out HOK.out).mono ?_
  rintro e w2 ⟨v2, rfl, ho, hb⟩
  have HO := Lib.hid (ho.lo HB.out.size)
  have HB2 := Lib.hid (HB.out.trans (hb.mono HB.out.size))
  clear ho hb
  go_wp2
  go_ret2
  exact GivesC.yes (okC_yes HOK.out) rfl HO.out HB2.out
theorem live_ask0 {m : Mc} {k : Int} (h : liveC m k = 0) : askC m k = 0 := by
  have h1 := live_zero h
  exact ask_ok h1.1 (inB_iff.2 (by omega))
/-- The rows that stand while the law goes on. -/
structure Rows4 (w : World) (gm : Nat) (v : Value) (B : Nat) (m : Mc) (vg vr vl : Value) (k : Int) (us : List Value) : Prop where
  v_ : RdMo w B v m
  x_ : Bx w gm us
  g_ : RdI w w.heap.size vg (undone m)
  r_ : RdI w w.heap.size vr (runL m k)
  l_ : RdI w w.heap.size vl (liveL m)
theorem Rows4.below {w w' : World} {gm B : Nat} {v : Value} {m : Mc} {vg vr vl : Value} {k : Int} {us : List Value} (h : Rows4 w gm v B m vg vr vl k us) (hb : Below w.heap.size w w') : Rows4 w' gm v B m vg vr vl k us :=
  ⟨h.v_.below (Nat.le_refl _) hb, h.x_.below hb h.x_.2.2, (h.g_.below hb).more hb.size, (h.r_.below hb).more hb.size, (h.l_.below hb).more hb.size⟩
set_option maxHeartbeats 40000000 in
set_option maxRecDepth 100000 in
theorem FnRuns.core (v0 : Value) (W : World) (hb : RdB W W.heap.size v0) : Calls Try.prog 5 #[v0] W fun e W' => e = .returned (.bool true) ∧ Below W.heap.size W W' := by
  have HB := Lib.hid hb
  obtain ⟨A0, n0, c0, rfl, hn0, -⟩ := hb
  by_cases hlong : 1048576 < n0
  · go_enter Try.func5, Try.ntmps5
    go_wp2_with fail
    refine (b10Long_s A0 n0 c0 hn0 true (by simpa using hlong) _).mono ?_
    rintro e w' ⟨rfl, rfl⟩
    go_wp2
    go_ret
    exact ⟨rfl, Below.refl _ _⟩
  go_enter Try.func5, Try.ntmps5
  go_wp2_with fail
  refine (b10Long_s A0 n0 c0 hn0 false (by simpa using hlong) _).mono ?_
  rintro e w' ⟨rfl, rfl⟩
  go_wp2_with fail
  refine (DrawRunOf_any W _ HB.out).mono ?_
  rintro e w1 ⟨m, v, k, rfl, hrd, hsm, hk0, hk1, hb1⟩
  obtain ⟨A1, c1, A2, c2, A3, c3, A4, c4, A5, c5, rfl⟩ := RdM.shape hrd.rd
  have hbA := (Below.refl w1.heap.size w1).alloc (Nat.le_refl _) (.cells (mcV m.wd m.rk (.slice A1 m.fr.length c1) (.slice A2 m.bk.length c2) (.slice A3 m.cs.length c3) (.slice A4 m.ls.length c4) (.slice A5 m.dr.length c5)) 29)
  have V1 := Lib.hid (hrd.below (Nat.le_refl _) hbA)
  have HSM := Lib.hid hsm
  have B1 := Lib.hid (hb1.trans (hbA.mono hb1.size))
  have X1 := Lib.hid (Bx.new w1 [.int .i64 m.wd, .int .i64 m.rk, .slice A1 m.fr.length c1, .slice A2 m.bk.length c2, .slice A3 m.cs.length c3, .slice A4 m.ls.length c4, .slice A5 m.dr.length c5] 29)
  clear hrd hsm hb1 hbA hlong
  go_wp2_with fail
  generalize w1.alloc (.cells (mcV m.wd m.rk (.slice A1 m.fr.length c1) (.slice A2 m.bk.length c2) (.slice A3 m.cs.length c3) (.slice A4 m.ls.length c4) (.slice A5 m.dr.length c5)) 29) = wA at *
  generalize w1.heap.size = gm at *
  refine (implUndone_any _ m wA V1.out.rd HSM.out.fit).mono ?_
  rintro e w2 ⟨vg, rfl, hog, hb2⟩
  have V2 := Lib.hid (V1.out.below (Nat.le_refl _) hb2)
  have B2 := Lib.hid (B1.out.trans (hb2.mono B1.out.size))
  have X2 := Lib.hid (X1.out.below hb2 X1.out.2.2)
  have G2 := Lib.hid (RdI.of_own hog)
  clear hb2 hog V1 B1 X1
  obtain ⟨x0, x1, x2, x3, x4, x5, x6⟩ := CellsAt.seven X2.out.1
  have HQ := Lib.hid (implSecure_any _ m w2 V2.out.rd HSM.out.fit)
  cases hok : okM m
  · rw [okC_no hok]
    rw [show secB m = false by unfold secB; rw [hok]; rfl] at HQ
    clear hok G2
    go_wp2_with fail
    refine HQ.out.mono ?_
    rintro e w3 ⟨rfl, hb3⟩
    have HB3 := Lib.hid (B2.out.trans (hb3.mono B2.out.size))
    clear hb3 HQ x0 x1 x2 x3 x4 x5 x6
    go_wp2
    go_ret
    exact ⟨rfl, HB3.out⟩
  rw [okC_yes hok]
  rw [okC_yes hok, okList_yes rfl] at G2
  rw [show secB m = (((undone m).length : Int) == 0) by unfold secB; rw [hok, Bool.true_and, Bool.eq_iff_iff]; simp] at HQ
  obtain ⟨Ag, cg, rfl⟩ := G2.out.len
  have HOK := Lib.hid hok
  clear hok
  go_wp2_with fail
  refine HQ.out.mono ?_
  rintro e w3 ⟨rfl, hb3⟩
  have V3 := Lib.hid (V2.out.below (Nat.le_refl _) hb3)
  have B3 := Lib.hid (B2.out.trans (hb3.mono B2.out.size))
  have X3 := Lib.hid (X2.out.below hb3 X2.out.2.2)
  have G3 := Lib.hid ((G2.out.below hb3).more hb3.size)
  clear hb3 V2 B2 X2 G2 HQ x0 x1 x2 x3 x4 x5 x6
  obtain ⟨x0, x1, x2, x3, x4, x5, x6⟩ := CellsAt.seven X3.out.1
  go_wp2_with fail
  refine (implRun_any _ m k w3 V3.out.rd HSM.out.fit).mono ?_
  rintro e w4 ⟨vr, rfl, hor, hb4⟩
  have V4 := Lib.hid (V3.out.below (Nat.le_refl _) hb4)
  have B4 := Lib.hid (B3.out.trans (hb4.mono B3.out.size))
  have X4 := Lib.hid (X3.out.below hb4 X3.out.2.2)
  have G4 := Lib.hid ((G3.out.below hb4).more hb4.size)
  have R4 := Lib.hid (RdI.of_own hor)
  clear hb4 hor V3 B3 X3 G3 x0 x1 x2 x3 x4 x5 x6
  obtain ⟨x0, x1, x2, x3, x4, x5, x6⟩ := CellsAt.seven X4.out.1
  go_wp2_with fail
  refine (implLadder_any _ m k w4 V4.out.rd HSM.out.fit).mono ?_
  rintro e w5 ⟨hr5, hb5⟩
  unfold ladR at hr5
  subst hr5
  have V5 := Lib.hid (V4.out.below (Nat.le_refl _) hb5)
  have B5 := Lib.hid (B4.out.trans (hb5.mono B4.out.size))
  have X5 := Lib.hid (X4.out.below hb5 X4.out.2.2)
  have G5 := Lib.hid ((G4.out.below hb5).more hb5.size)
  have R5 := Lib.hid ((R4.out.below hb5).more hb5.size)
  clear hb5 V4 B4 X4 G4 R4 x0 x1 x2 x3 x4 x5 x6
  by_cases hl : liveC m k = 0
  case neg =>
    have hne : (liveC m k != 0) = true := by simpa using hl
    clear G5 R5 X5 V5
    generalize liveC m k = LC at *
    go_wp2
    go_ret
    exact ⟨rfl, B5.out⟩
  obtain ⟨-, h0, h1⟩ := live_zero hl
  have ha := live_ask0 hl
  have hlad : ladV m k = (ladN (runL m k) (waleL m k) : Int) := by unfold ladV; rw [if_pos hl]
  rw [hlad, hl]
  rw [hl, okList_yes rfl] at R5
  have hL1 := lad_len (runL m k) (waleL m k)
  have hL2 := lad_run (r := runL m k) (waleL_nodup HOK.out h0)
  have HL3 := Lib.hid (show decide (0 < (ladN (runL m k) (waleL m k) : Int)) = (runL m k).contains k from lad_pos _ _ _)
  obtain ⟨Ar, nr, cr, hvr, hnr, hlr, gr⟩ := R5.out
  subst hvr
  have hrl := hlr.out
  rw [hrl] at hL2
  have HNR := Lib.hid hrl
  clear hrl hlr gr hlad hl
  obtain ⟨x0, x1, x2, x3, x4, x5, x6⟩ := CellsAt.seven X5.out.1
  go_wp2_with fail
  refine (specLive_any _ m w5 V5.out.rd HSM.out.fit).mono ?_
  rintro e w6 ⟨vl, rfl, hol, hb6⟩
  have T6 := Lib.hid (⟨V5.out.below (Nat.le_refl _) hb6, X5.out.below hb6 X5.out.2.2, (G5.out.below hb6).more hb6.size, (R5.out.below hb6).more hb6.size, by have h9 := RdI.of_own hol; rwa [okC_yes HOK.out, okList_yes rfl] at h9⟩ : Rows4 w6 gm _ _ m _ _ vl k _)
  have B6 := Lib.hid (B5.out.trans (hb6.mono B5.out.size))
  clear hol hb6 V5 X5 G5 R5 B5 x0 x1 x2 x3 x4 x5 x6
  have HRU := Lib.hid (fun (z : Int) (hz : z ∈ runL m k) => run_iff.1 hz)
  go_wp2
  go_loopw [13, 14, 15, 16] (fun i _ _ _ wr => ∃ (t : Nat) (wq : World), wq = wr ∧ t ≤ nr ∧ i = .int .i64 t ∧ Hid (Below w6.heap.size w6 wq)) (fun i _ _ _ _ => nr - (intOf i).toNat)
  case atStart => exact ⟨0, _, rfl, Nat.zero_le _, rfl, Below.refl _ _⟩
  case round =>
    obtain ⟨t, wq, hwq, htn, rfl, HBq⟩ := hrel
    subst hwq
    have Tq := Lib.hid (T6.out.below HBq.out)
    obtain ⟨y0, y1, y2, y3, y4, y5, y6⟩ := CellsAt.seven Tq.out.x_.1
    by_cases hlt : t < nr
    · obtain ⟨br, orr, z, rfl, hbr, hzl, hcz⟩ := Tq.out.r_.at_ hlt
      have hzm := List.mem_of_getElem? hzl
      have hra := HRU.out z hzm
      obtain ⟨hz0, hz1, -, -⟩ := hra
      have HZ := Lib.hid (HRU.out z hzm)
      have HGZ := Lib.hid (show (undone m).contains z = false by simpa using HZ.out.gone)
      obtain ⟨zn, rfl⟩ := Int.eq_ofNat_of_zero_le hz0
      have hng : ¬ (zn : Int) < 0 := by omega
      have hti : (t : Int) < (nr : Int) := by omega
      have HQg := Lib.hid (fun n : Nat => quiet_s (n := n) (show Calls Try.prog 22 #[.slice Ag (undone m).length cg, .int .i64 (zn : Int)] (wq.drewN n) fun e w' => e = .returned (.bool false) ∧ wq.drewN n = w' from by
        have h9 := b10Has_s (.slice Ag (undone m).length cg) (undone m) (zn : Int) (wq.drewN n) (show RdI (wq.drewN n) (wq.drewN n).heap.size _ _ from Tq.out.g_)
        rw [HGZ.out] at h9
        exact h9))
      have HQl := Lib.hid (fun (h : (zn : Int) ≠ k) (n : Nat) => quiet_s (n := n) (show Calls Try.prog 22 #[vl, .int .i64 (zn : Int)] (wq.drewN n) fun e w' => e = .returned (.bool false) ∧ wq.drewN n = w' from by
        have h9 := b10Has_s vl (liveL m) (zn : Int) (wq.drewN n) (show RdI (wq.drewN n) (wq.drewN n).heap.size _ _ from Tq.out.l_)
        rw [show (liveL m).contains (zn : Int) = false by simpa using HZ.out.live HOK.out h] at h9
        exact h9))
      have hzt : (zn : Int) < (m.ls.length : Int) := hz1
      have hz9 : decide (m.ls.length ≤ zn) = false := by simp; omega
      have hz8 : decide ((m.ls.length : Int) ≤ (zn : Int)) = false := by simp; omega
      clear hzl hzm hz0 hz1
      have HQL2 := Lib.hid (fun (h : ((zn : Int) != k) = true) => HQl.out (by simpa using h))
      clear HQl
      cases hzb : ((zn : Int) != k)
      all_goals
        go_wp2
        go_quiet ((go_at_call 22; first | with_reducible exact HQg.out _ | with_reducible exact HQL2.out hzb _))
        have hd7 := below_drewN (Below.refl wq.heap.size wq) nq
        have T7 := Lib.hid (Tq.out.below hd7)
        have HB7 := Lib.hid (HBq.out.trans (hd7.mono HBq.out.size))
        have hcz7 := (hd7.cell (p := ⟨br, orr + t, none⟩) hbr).trans hcz
        have hbr7 : br < (wq.drewN nq).heap.size := hbr
        have HQC := Lib.hid (specChildren_any _ m (zn : Int) (wq.drewN nq).drew (by exact T7.out.v_.rd) HSM.out.fit)
        rw [ask_ok HOK.out (inB_iff.2 (by omega)), okList_yes rfl] at HQC
        clear hd7 hcz hbr y0 y1 y2 y3 y4 y5 y6 HQg HQL2 HGZ hzb Tq
        generalize wq.drewN nq = w7 at *
        obtain ⟨y0, y1, y2, y3, y4, y5, y6⟩ := CellsAt.seven T7.out.x_.1
        go_wp2_with fail
        go_region_held3 (fun w' => w'.cell? ⟨gm, 0, none⟩ = some (.int .i64 m.wd) ∧ w'.cell? ⟨gm, 1, none⟩ = some (.int .i64 m.rk) ∧ w'.cell? ⟨gm, 2, none⟩ = some (.slice A1 m.fr.length c1) ∧ w'.cell? ⟨gm, 3, none⟩ = some (.slice A2 m.bk.length c2) ∧ w'.cell? ⟨gm, 4, none⟩ = some (.slice A3 m.cs.length c3) ∧ w'.cell? ⟨gm, 5, none⟩ = some (.slice A4 m.ls.length c4) ∧ w'.cell? ⟨gm, 6, none⟩ = some (.slice A5 m.dr.length c5) ∧ w'.cell? ⟨br, orr + t, none⟩ = some (.int .i64 (zn : Int)))
          (first | with_reducible exact ⟨y0, y1, y2, y3, y4, y5, y6, hcz7⟩ | with_reducible exact ⟨z0, z1, z2, z3, z4, z5, z6, hcz8⟩ | go_keep)
          (first
            | (go_at_call 29; refine (HQC.out).mono ?_; rintro e w8 ⟨vch, rfl, hoch, hb8⟩; have hb8' : Below w7.heap.size w7 w8 := (Below.refl _ w7).drew.trans hb8; obtain ⟨z0, z1, z2, z3, z4, z5, z6⟩ := CellsAt.seven (T7.out.below hb8').x_.1; have hcz8 : w8.cell? ⟨br, orr + t, none⟩ = some (.int .i64 (zn : Int)) := (hb8'.cell (p := ⟨br, orr + t, none⟩) hbr7).trans hcz7; obtain ⟨Ach, cch, rfl, -, -⟩ := hoch.cells))
        have T8 := Lib.hid (T7.out.below hb8')
        have HB8 := Lib.hid (HB7.out.trans (hb8'.mono HB7.out.size))
        have C8 := Lib.hid (RdI.of_own hoch)
        have hchn : (chL m (zn : Int)).length ≤ 300 := by have h8 := chGo_len (zn : Int) m.ls 0; have h9 := (okM_iff.1 HOK.out).ls; unfold chL; omega
        clear hb8' hb8 hoch T7 HB7 HQC y0 y1 y2 y3 y4 y5 y6 z0 z1 z2 z3 z4 z5 z6 hcz7 hcz8 hbr7
        go_wp2
        go_loop [16] (fun j => ∃ u : Nat, u ≤ (chL m (zn : Int)).length ∧ j = .int .i64 u) (fun j => (chL m (zn : Int)).length - (intOf j).toNat)
        case atStart => exact ⟨0, Nat.zero_le _, rfl⟩
        case round =>
          obtain ⟨u, hun, rfl⟩ := hrel
          by_cases hlu : u < (chL m (zn : Int)).length
          · obtain ⟨bc, oc, c, hAch, -, hcl, hcc⟩ := C8.out.at_ hlu
            subst hAch
            have hch := HZ.out.child HOK.out (List.mem_of_getElem? hcl)
            have HQr := Lib.hid (b10Has_s _ (runL m k) c w8 T8.out.r_)
            have HQg := Lib.hid (b10Has_s _ (undone m) c w8 T8.out.g_)
            clear hcl
            cases hrc : (runL m k).contains c
            · have hu : (undone m).contains c = true := by
                rcases hch with h9 | h9
                · have h10 : (runL m k).contains c = true := by simpa using h9
                  rw [hrc] at h10; cases h10
                · simpa using h9
              rw [hrc] at HQr
              rw [hu] at HQg
              clear hrc hu hch
              go_wp2_with fail
              refine (HQr.out).mono ?_
              rintro e w9 ⟨rfl, rfl⟩
              go_wp2_with fail
              refine (HQg.out).mono ?_
              rintro e w9 ⟨rfl, rfl⟩
              clear HQr HQg
              go_wp2
              go_round
              case rel => exact ⟨u + 1, by omega, by go_num⟩
              case measure => simp [intOf]; omega
            · rw [hrc] at HQr
              clear hrc hch HQg
              go_wp2_with fail
              refine (HQr.out).mono ?_
              rintro e w9 ⟨rfl, rfl⟩
              clear HQr
              go_wp2
              go_round
              case rel => exact ⟨u + 1, by omega, by go_num⟩
              case measure => simp [intOf]; omega
          · go_wp2
            exact ⟨⟨t + 1, _, rfl, by omega, by go_num, HB8.out⟩, by simp [intOf]; omega⟩
    · have htn2 : t = nr := by omega
      subst htn2
      have HQW := Lib.hid (specWale_any _ m k wq Tq.out.v_.rd HSM.out.fit)
      rw [ha, okList_yes rfl] at HQW
      have HBW := Lib.hid (B6.out.trans (HBq.out.mono B6.out.size))
      generalize ladN (runL m k) (waleL m k) = L at *
      have hL0 : (0 : Int) ≤ (L : Int) := by omega
      clear hlt htn ha
      go_wp2_with fail
      refine (HQW.out).mono ?_
      rintro e w7 ⟨vw, rfl, how, hb7⟩
      obtain ⟨Aw, cw, rfl, -, -⟩ := how.cells
      have T7 := Lib.hid (Tq.out.below hb7)
      have HB7 := Lib.hid (HBW.out.trans (hb7.mono HBW.out.size))
      have HQr := Lib.hid (b10Has_s _ (runL m k) k w7 T7.out.r_)
      rw [← HL3.out] at HQr
      clear how hb7 HQW y0 y1 y2 y3 y4 y5 y6
      have hL1i : (L : Int) ≤ ((waleL m k).length : Int) := by omega
      have hL2i : (L : Int) ≤ (t : Int) := by omega
      clear hL1 hL2
      go_wp2_with fail
      refine (HQr.out).mono ?_
      rintro e w8 ⟨rfl, rfl⟩
      go_wp2
      go_ret
      exact ⟨ret_bool (by simp), HB7.out⟩
set_option maxRecDepth 100000 in
theorem FnRuns.walk {H : Type} {enc : TypeId × Value → H} {base : Nat} {d0 : DataW H} {p0 : List MemPlace} (W : World) (v0 : Value) (o0 : Value.okWide Try.prog W .any base 22 v0)
    (h0 : DataW.Trod enc Try.prog W 0 (fun _ => true) true 22 v0 d0 p0) : Calls Try.prog 5 #[v0] W fun e W' => e = .returned (.bool true) ∧ Below W.heap.size W W' :=
  FnRuns.core v0 W (open_rdB Try.underlying22 Try.underlying5 (by kernel_rfl) o0 h0)

namespace FnRuns
theorem own : ownKnob Try.prog.godebug = none := by kernel_rfl
theorem laidOut : laidOutB Try.prog = true := by kernel_rfl

set_option maxRecDepth 100000 in
theorem lifted (os : Os) (started : os.Started) (H : Type) (enc : TypeId × Value → H) :
    ReturnsInHanded {} Try.checked os 5 .any (Rows.fnRunsSpec.pre6 enc Try.prog Try.f5 Rows.fnRunsRow.domain false) (Rows.fnRunsSpec.post enc Try.prog Try.f5 false true false false) := by
  refine returnsInHanded_of_change (C := Try.checked) own started (by kernel_rfl) Try.func5
    (ChangeSpec.witness6 (enc := enc) (C := Try.checked) false ⟨#[], #[.slice none 0 0], []⟩ 8 (by kernel_rfl) (by kernel_rfl) (by kernel_rfl) (by kernel_rfl)) ?_
  intro W base args ds gs before hval0 hW hcnd _
  have hval : ∀ (j : Nat) t v, Try.f5.params[j]? = some t → args[j]? = some v → Value.okWide Try.prog W .any base t v := hval0
  have hW' := hW
  obtain ⟨p, q, hA0, hV, rfl, hfz, hnd⟩ := hW
  have hA : DataW.TrodAll enc Try.prog W 0 (fun _ => true) true Try.f5.params.toList args.toList ds p := hA0
  rw [Try.params5] at hA hval
  obtain ⟨v0, vs0, d0, ds0, p0, q0, hargs, rfl, rfl, h0, r0⟩ := trodAll_cons hA
  obtain ⟨rfl, rfl, rfl⟩ := trodAll_nil r0
  obtain rfl : args = #[v0] := by cases args; simp_all
  obtain ⟨rfl, rfl⟩ := trodVars_none hV
  have k0 := h0
  have lt0 : ∀ x ∈ p0, x.block < W.heap.size := by obtain ⟨m, hm⟩ := k0; exact DataW.trod_lt m _ _ _ hm
  clear hA0 hval0
  refine (walk W v0 (hval 0 _ v0 rfl rfl) h0).mono fun e W' ⟨he, bel⟩ => ?_
  subst he
  exact ⟨_, rfl, _, _, _, [], _, [], hW', trodAll_mk1 (shut_bool Try.underlying4 _), (trodAll_cons_mk (Below.trod laidOut (by kernel_rfl) (of_decide_eq_true (by kernel_rfl)) k0 bel lt0) trodAll_mk0), rfl, bel.frame _, fun h => by cases h⟩

theorem over : Rows.fnRunsRow.holds Try.pinned (OpenSpec.ofChange Rows.fnRunsSpec) :=
  OpenClaim.holds_of_wide 5 Try.f5 rfl rfl rfl rfl rfl rfl rfl ⟨rfl, rfl, rfl, rfl, rfl⟩ rfl rfl rfl rfl rfl (by kernel_rfl) Try.func5 (by kernel_rfl)
    (of_decide_eq_true (by kernel_rfl)) (by unfold Func.isWrapper; first | (rw [if_pos (by decide +kernel)]; kernel_rfl) | (rw [if_neg (by decide +kernel)]; exact ⟨rfl, rfl⟩))
    (fun os started H enc _ => lifted os started H enc)

theorem proved : Rows.FnRunsSaid := over
end FnRuns

end Go.Proofs.Ytogaellhkjjeaaa
