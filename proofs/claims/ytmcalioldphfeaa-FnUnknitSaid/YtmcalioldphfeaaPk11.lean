/-
  Texts joined: UkJ, UkK.
-/
import Derived.Test.YtmcalioldphfeaaPk7
import Derived.Test.YtmcalioldphfeaaPk8
import Derived.Test.YtmcalioldphfeaaPk9
import Derived.Test.YtmcalioldphfeaaPk10
import Derived.Test.YtmcalioldphfeaaPk4
/-
  Unknit, of the program and of the reference: a machine and a code.
-/
namespace Go.Proofs.Ytmcalioldphfeaa
set_option linter.unusedVariables false
set_option linter.unusedSimpArgs false
open Go.RowKit

theorem only_set7 (W : World) (b : Nat) (u0 u1 u2 u3 u4 u5 u6 : Value) : Only b (b + 1) W (((((((W.setCell ⟨b, 0, none⟩ u0).setCell ⟨b, 1, none⟩ u1).setCell ⟨b, 2, none⟩ u2).setCell ⟨b, 3, none⟩ u3).setCell ⟨b, 4, none⟩ u4).setCell ⟨b, 5, none⟩ u5).setCell ⟨b, 6, none⟩ u6) :=
  have s : ∀ (a X : World), Only b (b + 1) a X → ∀ (i : Nat) (u : Value), Only b (b + 1) a (X.setCell ⟨b, i, none⟩ u) := fun a X h i u => h.setCell (Nat.le_refl b) (Nat.lt_succ_self b) u
  s _ _ (s _ _ (s _ _ (s _ _ (s _ _ (s _ _ (s _ _ (Only.refl _ _ _) _ _) _ _) _ _) _ _) _ _) _ _) _ _
theorem OwMs.wide {w : World} {a z a' z' : Nat} {v : Value} {m : Mc} (h : OwMs w a z v m) (ha : a' ≤ a) (hz : z ≤ z') (hs : z' ≤ w.heap.size) : OwMs w a' z' v m := by
  obtain ⟨lo, hi, R, e, h1, h2⟩ := h
  exact ⟨lo, hi, R, e, ⟨h1.own, h1.apart, fun j => Nat.le_trans ha (h1.low j), fun j => Nat.le_trans (h1.top j) hz, hs⟩, h2⟩
theorem nil_marks : 0 ≤ mkM nilMc ∧ mkM nilMc ≤ 5242880 := by simp [mkM, nilMc, sumL]
/-- The code of Unknit, and its machine. -/
def unkRC (m : Mc) : Int := if okM m = false then 1 else unkC m
def unkR (m : Mc) : Mc := if unkRC m = 0 then unkM m else nilMc
theorem unkR_marks (m : Mc) : 0 ≤ mkM (unkR m) ∧ mkM (unkR m) ≤ 5242880 := by
  unfold unkR
  split
  · rename_i h
    unfold unkRC at h
    cases ho : okM m
    · rw [ho] at h; cases h
    · rw [ho] at h
      exact (SmM.of (OkP.unk (okM_iff.1 ho) h)).marks
  · exact nil_marks

set_option maxHeartbeats 8000000 in
set_option maxRecDepth 100000 in
theorem specUnknit_any (v : Value) (m : Mc) (w : World) (hl : RdM w w.heap.size v m) (hf : FitM m) : Calls Try.prog 9 #[v] w (GivesMs w (unkR m) (unkRC m)) := by
  have hdr := hf.dr
  have HFT := Lib.hid hf
  have hl0 := hl
  obtain ⟨f, b, cs, ls, d, rfl, h1, h2, h3, h4, h5, h6⟩ := hl
  obtain ⟨AF, cF, rfl⟩ := RdN.shape h1
  obtain ⟨AG, cG, rfl⟩ := RdN.shape h2
  obtain ⟨AC, cC, rfl⟩ := RdS.lens h3
  obtain ⟨AI, cI, rfl⟩ := RdN.shape h4
  obtain ⟨AD, cD, rfl⟩ := RdI.len h5
  have BW := Lib.hid (show Below w.heap.size w (w.alloc (.cells #[.int .i64 m.wd, .int .i64 m.rk, .slice AF m.fr.length cF, .slice AG m.bk.length cG, .slice AC m.cs.length cC, .slice AI m.ls.length cI, .slice AD m.dr.length cD] 32)) from (Below.refl _ _).alloc (Nat.le_refl _) _)
  have HP := Lib.hid (RdP.box (T := 32) h1 h2 h3 h4 h5 h6)
  have HM := Lib.hid (hl0.up BW.out BW.out.size)
  clear h1 h2 h3 h4 h5 h6 hl0
  have hb0 := Bx.new w (mcV m.wd m.rk (.slice AF m.fr.length cF) (.slice AG m.bk.length cG) (.slice AC m.cs.length cC) (.slice AI m.ls.length cI) (.slice AD m.dr.length cD)).toList 32
  have HX0 := Lib.hid (hb0.alloc (.cells zeroM.toArray 32))
  have hr0 := Bx.new (w.alloc (.cells (mcV m.wd m.rk (.slice AF m.fr.length cF) (.slice AG m.bk.length cG) (.slice AC m.cs.length cC) (.slice AI m.ls.length cI) (.slice AD m.dr.length cD)) 32)) zeroM 32
  rw [World.size_alloc] at hr0
  have HR0 := Lib.hid hr0
  have hbA := (Below.refl (w.alloc (.cells (mcV m.wd m.rk (.slice AF m.fr.length cF) (.slice AG m.bk.length cG) (.slice AC m.cs.length cC) (.slice AI m.ls.length cI) (.slice AD m.dr.length cD)) 32)).heap.size (w.alloc (.cells (mcV m.wd m.rk (.slice AF m.fr.length cF) (.slice AG m.bk.length cG) (.slice AC m.cs.length cC) (.slice AI m.ls.length cI) (.slice AD m.dr.length cD)) 32))).alloc (Nat.le_refl _) (.cells zeroM.toArray 32)
  have HP2 := Lib.hid (HP.out.below hbA)
  have HM2 := Lib.hid (HM.out.up hbA hbA.size)
  have HB2 := Lib.hid (BW.out.trans (hbA.mono BW.out.size))
  clear hb0 hr0 hbA hf HP HM BW
  cases hok : okM m
  · have hc := Lib.hid (show unkRC m = 1 by unfold unkRC; rw [if_pos hok])
    have hm := Lib.hid (show unkR m = nilMc by unfold unkR; rw [if_neg (by rw [hc.out]; decide)])
    have HK := Lib.hid hok
    clear hok
    go_enter Try.func9, Try.ntmps9
    go_wp2_with fail
    refine (l07Ok_p m _ _ HP2.out hdr).mono ?_
    rintro e w2 ⟨rfl, hb⟩
    rw [HK.out]
    have HB3 := Lib.hid (HB2.out.trans (hb.mono HB2.out.size))
    obtain ⟨r0, r1, r2, r3, r4, r5, r6⟩ := CellsAt.seven (HR0.out.below hb HR0.out.2.2).1
    have rf := (HR0.out.below hb HR0.out.2.2).2.1
    have hsz := HB3.out.size
    clear hb
    go_wp2
    refine bodyPost_ret (v := .tuple #[.agg (mcV 0 0 (.slice none 0 0) (.slice none 0 0) (.slice none 0 0) (.slice none 0 0) (.slice none 0 0)), .int .i64 1]) (by simp [results, Try.results9, go_sem, r0, r1, r2, r3, r4, r5, r6, World.cell?_setCell_other]) rfl ?_
    exact ⟨_, by rw [hc.out], by rw [hm.out]; exact OwMs.nil _ _ _ (by simp; exact hsz) (Nat.le_refl _), ((((((HB3.out.setCell (Nat.le_succ _) _).setCell (Nat.le_succ _) _).setCell (Nat.le_succ _) _).setCell (Nat.le_succ _) _).setCell (Nat.le_succ _) _).setCell (Nat.le_succ _) _).setCell (Nat.le_succ _) _⟩
  · have HK := Lib.hid hok
    have HOK := Lib.hid (okM_iff.1 hok)
    have hokt := hok
    have HC := Lib.hid (show unkRC m = unkC m by unfold unkRC; rw [if_neg (by rw [hok]; decide)])
    have HBAD := Lib.hid (fun (h : unkC m ≠ 0) => show unkR m = nilMc by unfold unkR; rw [HC.out, if_neg h])
    have HGOOD := Lib.hid (fun (h : unkC m = 0) => show unkR m = unkM m by unfold unkR; rw [HC.out, if_pos h])
    clear hok
    go_enter Try.func9, Try.ntmps9
    go_wp2_with fail
    generalize (w.alloc (.cells (mcV m.wd m.rk (.slice AF m.fr.length cF) (.slice AG m.bk.length cG) (.slice AC m.cs.length cC) (.slice AI m.ls.length cI) (.slice AD m.dr.length cD)) 32)).alloc (.cells zeroM.toArray 32) = W1 at *
    refine (l07Ok_p m _ _ HP2.out hdr).mono ?_
    rintro e w2 ⟨rfl, hb⟩
    rw [HK.out]
    have HB3 := Lib.hid (HB2.out.trans (hb.mono HB2.out.size))
    have HP3 := Lib.hid (HP2.out.below hb)
    have HM3 := Lib.hid (HM2.out.up hb hb.size)
    have HR3 := Lib.hid (HR0.out.below hb HR0.out.2.2)
    have HX3 := Lib.hid (HX0.out.below hb HX0.out.2.2)
    obtain ⟨y0, y1, y2, y3, y4, y5, y6⟩ := CellsAt.seven HX3.out.1
    have hlt3 : w.heap.size + 1 < w2.heap.size := HR3.out.2.2
    clear hb HB2 HP2 HM2 HR0 HX0
    go_wp2_with fail
    refine (l07Own_any m w.heap.size w2 HP3.out hokt).mono ?_
    rintro e w3 ⟨S0, g0, rfl, hM0, hB0⟩
    have hz3 : w2.heap.size ≤ w3.heap.size := hB0.size
    obtain ⟨S1, hM1, hS1, -⟩ := hM0.rebox hz3
    obtain ⟨A1, c1, A2, c2, A3, c3, A4, c4, A5, c5, q1, q2, q3, q4, q5⟩ := hM0.slices
    rw [q1, q2, q3, q4, q5] at hM1
    rw [q1, q2, q3, q4, q5]
    have M1 := Lib.hid hM1
    have B0 := Lib.hid (hB0.alloc hz3 (.cells (mcV m.wd m.rk (.slice A1 m.fr.length c1) (.slice A2 m.bk.length c2) (.slice A3 m.cs.length c3) (.slice A4 m.ls.length c4) (.slice A5 m.dr.length c5)) 32))
    have HQ := Lib.hid (l12Unknit_any hM1 (show w2.heap.size ≤ _ by simp; omega) HOK.out)
    clear hM1 hM0 hB0 q1 q2 q3 q4 q5 hS1 hokt y0 y1 y2 y3 y4 y5 y6 hdr
    go_wp2_with fail
    refine (HQ.out).mono ?_
    rintro e w4 ⟨rfl, S2, hv2, hm2⟩
    have hb4 := hv2.below M1.out.sp (show w2.heap.size ≤ _ by simp; omega)
    have HB4 := Lib.hid (HB3.out.trans ((B0.out.trans hb4).mono HB3.out.size))
    have HR4 := Lib.hid ((HR3.out.below (B0.out.trans hb4) hlt3))
    obtain ⟨r0, r1, r2, r3, r4, r5, r6⟩ := CellsAt.seven HR4.out.1
    have rf := HR4.out.2.1
    have hsz := HB4.out.size
    clear hv2 hb4 HQ B0 M1
    by_cases h0 : unkC m = 0
    · have hM4 := hm2 h0
      have HE := Lib.hid (HGOOD.out h0)
      have HC2 := Lib.hid (HC.out.trans h0)
      rw [h0]
      generalize unkM m = m' at *
      obtain ⟨A1', c1', A2', c2', A3', c3', A4', c4', A5', c5', q1, q2, q3, q4, q5⟩ := hM4.slices
      obtain ⟨x0, x1, x2, x3, x4, x5, x6⟩ := hM4.cells.seven
      rw [q1] at x2
      rw [q2] at x3
      rw [q3] at x4
      rw [q4] at x5
      rw [q5] at x6
      have hge : w2.heap.size ≤ w3.heap.size := hz3
      have hz4 := hM4.size
      have HOW := OwMs.of_mst hM4 (by omega)
      rw [q1, q2, q3, q4, q5] at HOW
      have HOW4 := Lib.hid HOW
      clear hM4 hm2 q1 q2 q3 q4 q5 HOW h0 hz4
      go_wp2
      refine bodyPost_ret (v := .tuple #[.agg (mcV m'.wd m'.rk (.slice A1' m'.fr.length c1') (.slice A2' m'.bk.length c2') (.slice A3' m'.cs.length c3') (.slice A4' m'.ls.length c4') (.slice A5' m'.dr.length c5')), .int .i64 0]) (by simp [results, Try.results9, go_sem, r0, r1, r2, r3, r4, r5, r6, World.cell?_setCell_other]) rfl ?_
      refine ⟨_, by rw [HC2.out], ?_, ((((((HB4.out.setCell (Nat.le_succ _) _).setCell (Nat.le_succ _) _).setCell (Nat.le_succ _) _).setCell (Nat.le_succ _) _).setCell (Nat.le_succ _) _).setCell (Nat.le_succ _) _).setCell (Nat.le_succ _) _⟩
      rw [HE.out]
      exact (HOW4.out.only (only_set7 _ _ _ _ _ _ _ _ _) (.inr hlt3) (Nat.le_refl _)).wide (by omega) (by simp) (Nat.le_refl _)
    · have HE := Lib.hid (HBAD.out h0)
      have h0' : (unkC m != 0) = true := by simpa using h0
      have HC2 := Lib.hid HC.out
      clear hm2 h0
      generalize unkC m = cc at *
      go_wp2
      refine bodyPost_ret (v := .tuple #[.agg (mcV 0 0 (.slice none 0 0) (.slice none 0 0) (.slice none 0 0) (.slice none 0 0) (.slice none 0 0)), .int .i64 cc]) (by simp [results, Try.results9, go_sem, r0, r1, r2, r3, r4, r5, r6, World.cell?_setCell_other]) rfl ?_
      exact ⟨_, by rw [HC2.out], by rw [HE.out]; exact OwMs.nil _ _ _ (by simp; exact hsz) (Nat.le_refl _), ((((((HB4.out.setCell (Nat.le_succ _) _).setCell (Nat.le_succ _) _).setCell (Nat.le_succ _) _).setCell (Nat.le_succ _) _).setCell (Nat.le_succ _) _).setCell (Nat.le_succ _) _).setCell (Nat.le_succ _) _⟩
set_option maxHeartbeats 8000000 in
set_option maxRecDepth 100000 in
theorem implUnknit_any (v : Value) (m : Mc) (w : World) (hl : RdM w w.heap.size v m) (hf : FitM m) : Calls Try.prog 11 #[v] w (GivesMs w (unkR m) (unkRC m)) := by
  have hdr := hf.dr
  have HFT := Lib.hid hf
  have hl0 := hl
  obtain ⟨f, b, cs, ls, d, rfl, h1, h2, h3, h4, h5, h6⟩ := hl
  obtain ⟨AF, cF, rfl⟩ := RdN.shape h1
  obtain ⟨AG, cG, rfl⟩ := RdN.shape h2
  obtain ⟨AC, cC, rfl⟩ := RdS.lens h3
  obtain ⟨AI, cI, rfl⟩ := RdN.shape h4
  obtain ⟨AD, cD, rfl⟩ := RdI.len h5
  have BW := Lib.hid (show Below w.heap.size w (w.alloc (.cells #[.int .i64 m.wd, .int .i64 m.rk, .slice AF m.fr.length cF, .slice AG m.bk.length cG, .slice AC m.cs.length cC, .slice AI m.ls.length cI, .slice AD m.dr.length cD] 32)) from (Below.refl _ _).alloc (Nat.le_refl _) _)
  have HP := Lib.hid (RdP.box (T := 32) h1 h2 h3 h4 h5 h6)
  have HM := Lib.hid (hl0.up BW.out BW.out.size)
  clear h1 h2 h3 h4 h5 h6 hl0
  have hb0 := Bx.new w (mcV m.wd m.rk (.slice AF m.fr.length cF) (.slice AG m.bk.length cG) (.slice AC m.cs.length cC) (.slice AI m.ls.length cI) (.slice AD m.dr.length cD)).toList 32
  have HX0 := Lib.hid (hb0.alloc (.cells zeroM.toArray 32))
  have hr0 := Bx.new (w.alloc (.cells (mcV m.wd m.rk (.slice AF m.fr.length cF) (.slice AG m.bk.length cG) (.slice AC m.cs.length cC) (.slice AI m.ls.length cI) (.slice AD m.dr.length cD)) 32)) zeroM 32
  rw [World.size_alloc] at hr0
  have HR0 := Lib.hid hr0
  have hbA := (Below.refl (w.alloc (.cells (mcV m.wd m.rk (.slice AF m.fr.length cF) (.slice AG m.bk.length cG) (.slice AC m.cs.length cC) (.slice AI m.ls.length cI) (.slice AD m.dr.length cD)) 32)).heap.size (w.alloc (.cells (mcV m.wd m.rk (.slice AF m.fr.length cF) (.slice AG m.bk.length cG) (.slice AC m.cs.length cC) (.slice AI m.ls.length cI) (.slice AD m.dr.length cD)) 32))).alloc (Nat.le_refl _) (.cells zeroM.toArray 32)
  have HP2 := Lib.hid (HP.out.below hbA)
  have HM2 := Lib.hid (HM.out.up hbA hbA.size)
  have HB2 := Lib.hid (BW.out.trans (hbA.mono BW.out.size))
  clear hb0 hr0 hbA hf HP HM BW
  cases hok : okM m
  · have hc := Lib.hid (show unkRC m = 1 by unfold unkRC; rw [if_pos hok])
    have hm := Lib.hid (show unkR m = nilMc by unfold unkR; rw [if_neg (by rw [hc.out]; decide)])
    have HK := Lib.hid hok
    clear hok
    go_enter Try.func11, Try.ntmps11
    go_wp2_with fail
    refine (validMachine_any _ m _ HM2.out).mono ?_
    rintro e w2 ⟨rfl, hb⟩
    rw [HK.out]
    have HB3 := Lib.hid (HB2.out.trans (hb.mono HB2.out.size))
    obtain ⟨r0, r1, r2, r3, r4, r5, r6⟩ := CellsAt.seven (HR0.out.below hb HR0.out.2.2).1
    have rf := (HR0.out.below hb HR0.out.2.2).2.1
    have hsz := HB3.out.size
    clear hb
    go_wp2
    refine bodyPost_ret (v := .tuple #[.agg (mcV 0 0 (.slice none 0 0) (.slice none 0 0) (.slice none 0 0) (.slice none 0 0) (.slice none 0 0)), .int .i64 1]) (by simp [results, Try.results11, go_sem, r0, r1, r2, r3, r4, r5, r6, World.cell?_setCell_other]) rfl ?_
    exact ⟨_, by rw [hc.out], by rw [hm.out]; exact OwMs.nil _ _ _ (by simp; exact hsz) (Nat.le_refl _), ((((((HB3.out.setCell (Nat.le_succ _) _).setCell (Nat.le_succ _) _).setCell (Nat.le_succ _) _).setCell (Nat.le_succ _) _).setCell (Nat.le_succ _) _).setCell (Nat.le_succ _) _).setCell (Nat.le_succ _) _⟩
  · have HK := Lib.hid hok
    have HOK := Lib.hid (okM_iff.1 hok)
    have hokt := hok
    have HC := Lib.hid (show unkRC m = unkC m by unfold unkRC; rw [if_neg (by rw [hok]; decide)])
    have HBAD := Lib.hid (fun (h : unkC m ≠ 0) => show unkR m = nilMc by unfold unkR; rw [HC.out, if_neg h])
    have HGOOD := Lib.hid (fun (h : unkC m = 0) => show unkR m = unkM m by unfold unkR; rw [HC.out, if_pos h])
    clear hok
    go_enter Try.func11, Try.ntmps11
    go_wp2_with fail
    generalize (w.alloc (.cells (mcV m.wd m.rk (.slice AF m.fr.length cF) (.slice AG m.bk.length cG) (.slice AC m.cs.length cC) (.slice AI m.ls.length cI) (.slice AD m.dr.length cD)) 32)).alloc (.cells zeroM.toArray 32) = W1 at *
    refine (validMachine_any _ m _ HM2.out).mono ?_
    rintro e w2 ⟨rfl, hb⟩
    rw [HK.out]
    have HB3 := Lib.hid (HB2.out.trans (hb.mono HB2.out.size))
    have HP3 := Lib.hid (HP2.out.below hb)
    have HM3 := Lib.hid (HM2.out.up hb hb.size)
    have HR3 := Lib.hid (HR0.out.below hb HR0.out.2.2)
    have HX3 := Lib.hid (HX0.out.below hb HX0.out.2.2)
    obtain ⟨y0, y1, y2, y3, y4, y5, y6⟩ := CellsAt.seven HX3.out.1
    have hlt3 : w.heap.size + 1 < w2.heap.size := HR3.out.2.2
    clear hb HB2 HP2 HM2 HR0 HX0
    go_wp2_with fail
    refine (copyMachine_any _ m w2 HM3.out HFT.out).mono ?_
    rintro e w3 ⟨S0, g0, rfl, hM0, hB0⟩
    have hz3 : w2.heap.size ≤ w3.heap.size := hB0.size
    obtain ⟨S1, hM1, hS1, -⟩ := hM0.rebox hz3
    obtain ⟨A1, c1, A2, c2, A3, c3, A4, c4, A5, c5, q1, q2, q3, q4, q5⟩ := hM0.slices
    rw [q1, q2, q3, q4, q5] at hM1
    rw [q1, q2, q3, q4, q5]
    have M1 := Lib.hid hM1
    have B0 := Lib.hid (hB0.alloc hz3 (.cells (mcV m.wd m.rk (.slice A1 m.fr.length c1) (.slice A2 m.bk.length c2) (.slice A3 m.cs.length c3) (.slice A4 m.ls.length c4) (.slice A5 m.dr.length c5)) 32))
    have HQ := Lib.hid (unknit_any hM1 (show w2.heap.size ≤ _ by simp; omega) HOK.out)
    clear hM1 hM0 hB0 q1 q2 q3 q4 q5 hS1 hokt y0 y1 y2 y3 y4 y5 y6 hdr
    go_wp2_with fail
    refine (HQ.out).mono ?_
    rintro e w4 ⟨rfl, S2, hv2, hm2⟩
    have hb4 := hv2.below M1.out.sp (show w2.heap.size ≤ _ by simp; omega)
    have HB4 := Lib.hid (HB3.out.trans ((B0.out.trans hb4).mono HB3.out.size))
    have HR4 := Lib.hid ((HR3.out.below (B0.out.trans hb4) hlt3))
    obtain ⟨r0, r1, r2, r3, r4, r5, r6⟩ := CellsAt.seven HR4.out.1
    have rf := HR4.out.2.1
    have hsz := HB4.out.size
    clear hv2 hb4 HQ B0 M1
    by_cases h0 : unkC m = 0
    · have hM4 := hm2 h0
      have HE := Lib.hid (HGOOD.out h0)
      have HC2 := Lib.hid (HC.out.trans h0)
      rw [h0]
      generalize unkM m = m' at *
      obtain ⟨A1', c1', A2', c2', A3', c3', A4', c4', A5', c5', q1, q2, q3, q4, q5⟩ := hM4.slices
      obtain ⟨x0, x1, x2, x3, x4, x5, x6⟩ := hM4.cells.seven
      rw [q1] at x2
      rw [q2] at x3
      rw [q3] at x4
      rw [q4] at x5
      rw [q5] at x6
      have hge : w2.heap.size ≤ w3.heap.size := hz3
      have hz4 := hM4.size
      have HOW := OwMs.of_mst hM4 (by omega)
      rw [q1, q2, q3, q4, q5] at HOW
      have HOW4 := Lib.hid HOW
      clear hM4 hm2 q1 q2 q3 q4 q5 HOW h0 hz4
      go_wp2
      refine bodyPost_ret (v := .tuple #[.agg (mcV m'.wd m'.rk (.slice A1' m'.fr.length c1') (.slice A2' m'.bk.length c2') (.slice A3' m'.cs.length c3') (.slice A4' m'.ls.length c4') (.slice A5' m'.dr.length c5')), .int .i64 0]) (by simp [results, Try.results11, go_sem, r0, r1, r2, r3, r4, r5, r6, World.cell?_setCell_other]) rfl ?_
      refine ⟨_, by rw [HC2.out], ?_, ((((((HB4.out.setCell (Nat.le_succ _) _).setCell (Nat.le_succ _) _).setCell (Nat.le_succ _) _).setCell (Nat.le_succ _) _).setCell (Nat.le_succ _) _).setCell (Nat.le_succ _) _).setCell (Nat.le_succ _) _⟩
      rw [HE.out]
      exact (HOW4.out.only (only_set7 _ _ _ _ _ _ _ _ _) (.inr hlt3) (Nat.le_refl _)).wide (by omega) (by simp) (Nat.le_refl _)
    · have HE := Lib.hid (HBAD.out h0)
      have h0' : (unkC m != 0) = true := by simpa using h0
      have HC2 := Lib.hid HC.out
      clear hm2 h0
      generalize unkC m = cc at *
      go_wp2
      refine bodyPost_ret (v := .tuple #[.agg (mcV 0 0 (.slice none 0 0) (.slice none 0 0) (.slice none 0 0) (.slice none 0 0) (.slice none 0 0)), .int .i64 cc]) (by simp [results, Try.results11, go_sem, r0, r1, r2, r3, r4, r5, r6, World.cell?_setCell_other]) rfl ?_
      exact ⟨_, by rw [HC2.out], by rw [HE.out]; exact OwMs.nil _ _ _ (by simp; exact hsz) (Nat.le_refl _), ((((((HB4.out.setCell (Nat.le_succ _) _).setCell (Nat.le_succ _) _).setCell (Nat.le_succ _) _).setCell (Nat.le_succ _) _).setCell (Nat.le_succ _) _).setCell (Nat.le_succ _) _).setCell (Nat.le_succ _) _⟩

end Go.Proofs.Ytmcalioldphfeaa

/-
  UnknitTo, of the program and of the reference: a machine, how many loops were taken back, and a code.
-/
namespace Go.Proofs.Ytmcalioldphfeaa
set_option linter.unusedVariables false
set_option linter.unusedSimpArgs false
open Go.RowKit

/-- Some loops are taken back: the code, and the machine. -/
def utGo : Nat → Mc → Int × Mc
  | 0, m => (0, m)
  | k + 1, m => if unkC m = 0 then utGo k (unkM m) else (unkC m, m)
def utC (m : Mc) (k : Int) : Int := if okM m = false then 1 else if inB 0 k (m.ls.length : Int) = false then 2 else (utGo (m.ls.length - k.toNat) m).1
def utR (m : Mc) (k : Int) : Mc := if utC m k = 0 then (utGo (m.ls.length - k.toNat) m).2 else nilMc
def utS (m : Mc) (k : Int) : Int := if utC m k = 0 then (m.ls.length : Int) - k else 0
theorem unkM_len {m : Mc} {n : Nat} (h : m.ls.length = n + 1) : (unkM m).ls.length = n := by
  obtain ⟨x, hx⟩ : ∃ x, m.ls.getLast? = some x := by
    rw [List.getLast?_eq_getElem?, h]
    exact ⟨_, List.getElem?_eq_getElem (by omega)⟩
  rw [unk_to hx]
  show ((unkL (setC m x.y _) x).ls.take _).length = n
  rw [List.length_take, unkL_ls, setC_ls, h]
  omega
theorem utGo_ok : ∀ (k : Nat) (m : Mc), OkP m → (utGo k m).1 = 0 → OkP (utGo k m).2
  | 0, m, h, _ => h
  | k + 1, m, h, h0 => by
    rw [utGo] at h0 ⊢
    by_cases hc : unkC m = 0
    · rw [if_pos hc] at h0 ⊢
      exact utGo_ok k _ (h.unk hc) h0
    · rw [if_neg hc] at h0
      exact absurd h0 hc
theorem utR_marks (m : Mc) (k : Int) : 0 ≤ mkM (utR m k) ∧ mkM (utR m k) ≤ 5242880 := by
  unfold utR
  split
  · rename_i h
    unfold utC at h
    cases ho : okM m
    · rw [ho] at h; cases h
    · rw [ho] at h
      rw [if_neg (by decide)] at h
      split at h
      · cases h
      · exact (SmM.of (utGo_ok _ _ (okM_iff.1 ho) h)).marks
  · exact nil_marks
def GivesMs3 (w : World) (m : Mc) (steps code : Int) (e : Ending) (w' : World) : Prop := ∃ v, e = .returned (.tuple #[v, .int .i64 steps, .int .i64 code]) ∧ OwMs w' w.heap.size w'.heap.size v m ∧ Below w.heap.size w w'

set_option maxHeartbeats 8000000 in
set_option maxRecDepth 100000 in
theorem specUnkTo_any (v : Value) (m : Mc) (k : Int) (w : World) (hl : RdM w w.heap.size v m) (hf : FitM m) : Calls Try.prog 15 #[v, .int .i64 k] w (GivesMs3 w (utR m k) (utS m k) (utC m k)) := by
  have hdr := hf.dr
  have HFT := Lib.hid hf
  have hl0 := hl
  obtain ⟨f, b, cs, ls, d, rfl, h1, h2, h3, h4, h5, h6⟩ := hl
  obtain ⟨AF, cF, rfl⟩ := RdN.shape h1
  obtain ⟨AG, cG, rfl⟩ := RdN.shape h2
  obtain ⟨AC, cC, rfl⟩ := RdS.lens h3
  obtain ⟨AI, cI, rfl⟩ := RdN.shape h4
  obtain ⟨AD, cD, rfl⟩ := RdI.len h5
  have BW := Lib.hid (show Below w.heap.size w (w.alloc (.cells #[.int .i64 m.wd, .int .i64 m.rk, .slice AF m.fr.length cF, .slice AG m.bk.length cG, .slice AC m.cs.length cC, .slice AI m.ls.length cI, .slice AD m.dr.length cD] 32)) from (Below.refl _ _).alloc (Nat.le_refl _) _)
  have HP := Lib.hid (RdP.box (T := 32) h1 h2 h3 h4 h5 h6)
  have HM := Lib.hid (hl0.up BW.out BW.out.size)
  clear h1 h2 h3 h4 h5 h6 hl0
  have hb0 := Bx.new w (mcV m.wd m.rk (.slice AF m.fr.length cF) (.slice AG m.bk.length cG) (.slice AC m.cs.length cC) (.slice AI m.ls.length cI) (.slice AD m.dr.length cD)).toList 32
  have HX0 := Lib.hid (hb0.alloc (.cells zeroM.toArray 32))
  have hr0 := Bx.new (w.alloc (.cells (mcV m.wd m.rk (.slice AF m.fr.length cF) (.slice AG m.bk.length cG) (.slice AC m.cs.length cC) (.slice AI m.ls.length cI) (.slice AD m.dr.length cD)) 32)) zeroM 32
  rw [World.size_alloc] at hr0
  have HR0 := Lib.hid hr0
  have hbA := (Below.refl (w.alloc (.cells (mcV m.wd m.rk (.slice AF m.fr.length cF) (.slice AG m.bk.length cG) (.slice AC m.cs.length cC) (.slice AI m.ls.length cI) (.slice AD m.dr.length cD)) 32)).heap.size (w.alloc (.cells (mcV m.wd m.rk (.slice AF m.fr.length cF) (.slice AG m.bk.length cG) (.slice AC m.cs.length cC) (.slice AI m.ls.length cI) (.slice AD m.dr.length cD)) 32))).alloc (Nat.le_refl _) (.cells zeroM.toArray 32)
  have HP2 := Lib.hid (HP.out.below hbA)
  have HM2 := Lib.hid (HM.out.up hbA hbA.size)
  have HB2 := Lib.hid (BW.out.trans (hbA.mono BW.out.size))
  clear hb0 hr0 hbA hf HP HM BW
  cases hok : okM m
  · have hc := Lib.hid (show utC m k = 1 by unfold utC; rw [if_pos hok])
    have hm := Lib.hid (show utR m k = nilMc by unfold utR; rw [if_neg (by rw [hc.out]; decide)])
    have hs := Lib.hid (show utS m k = 0 by unfold utS; rw [if_neg (by rw [hc.out]; decide)])
    have HK := Lib.hid hok
    clear hok
    go_enter Try.func15, Try.ntmps15
    go_wp2_with fail
    refine (l07Ok_p m _ _ HP2.out hdr).mono ?_
    rintro e w2 ⟨rfl, hb⟩
    rw [HK.out]
    have HB3 := Lib.hid (HB2.out.trans (hb.mono HB2.out.size))
    have HRX := Lib.hid (HR0.out.below hb HR0.out.2.2)
    clear hb
    obtain ⟨r0, r1, r2, r3, r4, r5, r6⟩ := CellsAt.seven HRX.out.1
    have rf := HRX.out.2.1
    have hsz := HB3.out.size
    go_wp2
    refine bodyPost_ret (v := .tuple #[.agg (mcV 0 0 (.slice none 0 0) (.slice none 0 0) (.slice none 0 0) (.slice none 0 0) (.slice none 0 0)), .int .i64 0, .int .i64 1]) (by simp [results, Try.results15, go_sem, r0, r1, r2, r3, r4, r5, r6, World.cell?_setCell_other]) rfl ?_
    exact ⟨_, by rw [hc.out, hs.out], by rw [hm.out]; exact OwMs.nil _ _ _ (by simp; exact hsz) (Nat.le_refl _), ((((((HB3.out.setCell (Nat.le_succ _) _).setCell (Nat.le_succ _) _).setCell (Nat.le_succ _) _).setCell (Nat.le_succ _) _).setCell (Nat.le_succ _) _).setCell (Nat.le_succ _) _).setCell (Nat.le_succ _) _⟩
  · have HK := Lib.hid hok
    have HOK := Lib.hid (okM_iff.1 hok)
    have hokt := hok
    have HIN := Lib.hid (fun (h : inB 0 k (m.ls.length : Int) = false) => show utC m k = 2 by unfold utC; rw [if_neg (by rw [hok]; decide), if_pos h])
    have HGO := Lib.hid (fun (h : inB 0 k (m.ls.length : Int) = true) => show utC m k = (utGo (m.ls.length - k.toNat) m).1 by unfold utC; rw [if_neg (by rw [hok]; decide), if_neg (by rw [h]; decide)])
    have HBAD := Lib.hid (fun (h : utC m k ≠ 0) => And.intro (show utR m k = nilMc by unfold utR; rw [if_neg h]) (show utS m k = 0 by unfold utS; rw [if_neg h]))
    have HGOOD := Lib.hid (fun (h : utC m k = 0) => And.intro (show utR m k = (utGo (m.ls.length - k.toNat) m).2 by unfold utR; rw [if_pos h]) (show utS m k = (m.ls.length : Int) - k by unfold utS; rw [if_pos h]))
    clear hok
    go_enter Try.func15, Try.ntmps15
    go_wp2_with fail
    generalize (w.alloc (.cells (mcV m.wd m.rk (.slice AF m.fr.length cF) (.slice AG m.bk.length cG) (.slice AC m.cs.length cC) (.slice AI m.ls.length cI) (.slice AD m.dr.length cD)) 32)).alloc (.cells zeroM.toArray 32) = W1 at *
    refine (l07Ok_p m _ _ HP2.out hdr).mono ?_
    rintro e w2 ⟨rfl, hb⟩
    rw [HK.out]
    have HB3 := Lib.hid (HB2.out.trans (hb.mono HB2.out.size))
    have HP3 := Lib.hid (HP2.out.below hb)
    have HM3 := Lib.hid (HM2.out.up hb hb.size)
    have HRX := Lib.hid (HR0.out.below hb HR0.out.2.2)
    have HX3 := Lib.hid (HX0.out.below hb HX0.out.2.2)
    obtain ⟨y0, y1, y2, y3, y4, y5, y6⟩ := CellsAt.seven HX3.out.1
    have hlt3 : w.heap.size + 1 < w2.heap.size := HRX.out.2.2
    have h300 : m.ls.length ≤ 300 := HOK.out.ls
    clear hb HB2 HP2 HM2 HR0 HX0
    cases hin : inB 0 k (m.ls.length : Int)
    · have hc := Lib.hid (HIN.out hin)
      have hb9 := Lib.hid (HBAD.out (by rw [hc.out]; decide))
      have HI := Lib.hid hin
      obtain ⟨r0, r1, r2, r3, r4, r5, r6⟩ := CellsAt.seven HRX.out.1
      have rf := HRX.out.2.1
      have hsz := HB3.out.size
      clear hin hokt
      go_wp2_with (go_at_call 59; refine (l00In_s _ _ _ _).mono ?_; rintro e w' ⟨rfl, rfl⟩; rw [HI.out])
      refine bodyPost_ret (v := .tuple #[.agg (mcV 0 0 (.slice none 0 0) (.slice none 0 0) (.slice none 0 0) (.slice none 0 0) (.slice none 0 0)), .int .i64 0, .int .i64 2]) (by simp [results, Try.results15, go_sem, r0, r1, r2, r3, r4, r5, r6, World.cell?_setCell_other]) rfl ?_
      exact ⟨_, by rw [hc.out, hb9.out.2], by rw [hb9.out.1]; exact OwMs.nil _ _ _ (by simp; exact hsz) (Nat.le_refl _), ((((((HB3.out.setCell (Nat.le_succ _) _).setCell (Nat.le_succ _) _).setCell (Nat.le_succ _) _).setCell (Nat.le_succ _) _).setCell (Nat.le_succ _) _).setCell (Nat.le_succ _) _).setCell (Nat.le_succ _) _⟩
    · have HI := Lib.hid hin
      obtain ⟨hk0, hk1⟩ := inB_iff.1 hin
      obtain ⟨kn, rfl⟩ := Int.eq_ofNat_of_zero_le hk0
      have HC := Lib.hid (show utC m (kn : Int) = (utGo (m.ls.length - kn) m).1 from HGO.out hin)
      have hgd : utC m (kn : Int) = 0 → utR m (kn : Int) = (utGo (m.ls.length - kn) m).2 ∧ utS m (kn : Int) = (m.ls.length : Int) - (kn : Int) := HGOOD.out
      have HGD := Lib.hid hgd
      clear hin hgd
      go_wp2_with (go_at_call 59; refine (l00In_s _ _ _ _).mono ?_; rintro e w' ⟨rfl, rfl⟩; rw [HI.out])
      refine (l07Own_any m w.heap.size w2 HP3.out hokt).mono ?_
      rintro e w3 ⟨S0, g0, rfl, hM0, hB0⟩
      have hz3 : w2.heap.size ≤ w3.heap.size := hB0.size
      obtain ⟨S1, hM1, hS1, -⟩ := hM0.rebox hz3
      obtain ⟨A1, c1, A2, c2, A3, c3, A4, c4, A5, c5, q1, q2, q3, q4, q5⟩ := hM0.slices
      rw [q1, q2, q3, q4, q5] at hM1
      rw [q1, q2, q3, q4, q5]
      have M1 := Lib.hid hM1
      have B0 := Lib.hid (hB0.alloc hz3 (.cells (mcV m.wd m.rk (.slice A1 m.fr.length c1) (.slice A2 m.bk.length c2) (.slice A3 m.cs.length c3) (.slice A4 m.ls.length c4) (.slice A5 m.dr.length c5)) 32))
      clear hM1 hM0 hB0 q1 q2 q3 q4 q5 hS1 hokt y0 y1 y2 y3 y4 y5 y6 hdr
      go_wp2_with fail
      have hw3 : w3.heap.size = w3.heap.size := rfl
      generalize hW4 : w3.alloc (.cells (mcV m.wd m.rk (.slice A1 m.fr.length c1) (.slice A2 m.bk.length c2) (.slice A3 m.cs.length c3) (.slice A4 m.ls.length c4) (.slice A5 m.dr.length c5)) 32) = W4 at *
      generalize w3.heap.size = g2 at *
      clear hW4 hw3
      go_loopw [8] (fun n wr => ∃ (m' : Mc) (S' : Nat → Spot) (j : Nat) (wq : World), wq = wr ∧ n = .int .i64 ((m.ls.length : Int) - (m'.ls.length : Int)) ∧ m'.ls.length = j + kn ∧ m'.ls.length ≤ m.ls.length ∧ Hid (MSt wq w2.heap.size g2 m' S') ∧ Hid (OkP m') ∧ Hid (utGo (m.ls.length - kn) m = utGo j m') ∧ Hid (Below w2.heap.size w2 wq)) (fun n _ => m.ls.length - (intOf n).toNat)
      case atStart => exact ⟨m, S1, m.ls.length - kn, _, rfl, by simp, by omega, Nat.le_refl _, M1.out, HOK.out, rfl, B0.out⟩
      case round =>
        obtain ⟨m', S', j, wq, hwq, rfl, hj, hle, HMq, HOq, HGq, HBq⟩ := hrel
        subst hwq
        have HB4 := Lib.hid (HB3.out.trans (HBq.out.mono HB3.out.size))
        have HRY := Lib.hid (HRX.out.below HBq.out hlt3)
        obtain ⟨x0, x1, x2, x3, x4, x5, x6⟩ := HMq.out.cells.seven
        obtain ⟨A1', c1', A2', c2', A3', c3', A4', c4', A5', c5', q1, q2, q3, q4, q5⟩ := HMq.out.slices
        rw [q4] at x5
        by_cases hj0 : j = 0
        · subst hj0
          have hlen : ¬ ((kn : Int) < (m'.ls.length : Int)) := by omega
          have HC2 := Lib.hid (show utC m (kn : Int) = 0 by rw [HC.out, HGq.out]; rfl)
          have HE := Lib.hid (show utR m (kn : Int) = m' by rw [(HGD.out HC2.out).1, HGq.out]; rfl)
          have HS := Lib.hid (show utS m (kn : Int) = (m.ls.length : Int) - (m'.ls.length : Int) by rw [(HGD.out HC2.out).2]; omega)
          rw [q1] at x2
          rw [q2] at x3
          rw [q3] at x4
          rw [q5] at x6
          obtain ⟨r0, r1, r2, r3, r4, r5, r6⟩ := CellsAt.seven HRY.out.1
          have rf := HRY.out.2.1
          have hsz := HBq.out.size
          have HOW := OwMs.of_mst HMq.out (by omega)
          rw [q1, q2, q3, q4, q5] at HOW
          have HOW4 := Lib.hid HOW
          clear q1 q2 q3 q4 q5 HOW hj hle
          go_wp2
          refine bodyPost_ret (v := .tuple #[.agg (mcV m'.wd m'.rk (.slice A1' m'.fr.length c1') (.slice A2' m'.bk.length c2') (.slice A3' m'.cs.length c3') (.slice A4' m'.ls.length c4') (.slice A5' m'.dr.length c5')), .int .i64 ((m.ls.length : Int) - (m'.ls.length : Int)), .int .i64 0]) (by simp [results, Try.results15, go_sem, r0, r1, r2, r3, r4, r5, r6, World.cell?_setCell_other]) rfl ?_
          refine ⟨_, by rw [HC2.out, HS.out], ?_, ((((((HB4.out.setCell (Nat.le_succ _) _).setCell (Nat.le_succ _) _).setCell (Nat.le_succ _) _).setCell (Nat.le_succ _) _).setCell (Nat.le_succ _) _).setCell (Nat.le_succ _) _).setCell (Nat.le_succ _) _⟩
          rw [HE.out]
          exact (HOW4.out.only (only_set7 _ _ _ _ _ _ _ _ _) (.inr hlt3) (Nat.le_refl _)).wide (by omega) (by simp) (Nat.le_refl _)
        · obtain ⟨i, rfl⟩ : ∃ i, j = i + 1 := ⟨j - 1, by omega⟩
          have hlen : (kn : Int) < (m'.ls.length : Int) := by omega
          have hszq := HBq.out.size
          have HQ := Lib.hid (l12Unknit_any HMq.out (show w2.heap.size ≤ _ by omega) HOq.out)
          clear q1 q2 q3 q4 q5 hj0
          go_wp2_with fail
          refine (HQ.out).mono ?_
          rintro e w4 ⟨rfl, S2, hv2, hm2⟩
          have hb4 := hv2.below HMq.out.sp (show w2.heap.size ≤ _ by omega)
          have HB5 := Lib.hid (HBq.out.trans hb4)
          have HB6 := Lib.hid (HB3.out.trans ((HBq.out.trans hb4).mono HB3.out.size))
          have HRZ := Lib.hid (HRX.out.below (HBq.out.trans hb4) hlt3)
          have hunf := Lib.hid (show utGo (i + 1) m' = if unkC m' = 0 then utGo i (unkM m') else (unkC m', m') from rfl)
          clear hv2 hb4 HQ x0 x1 x2 x3 x4 x5 x6
          by_cases h0 : unkC m' = 0
          · have HM4 := Lib.hid (hm2 h0)
            have HO4 := Lib.hid (HOq.out.unk h0)
            have HG4 := Lib.hid (HGq.out.trans (hunf.out.trans (if_pos h0)))
            have hls := unkM_len (show m'.ls.length = (i + kn) + 1 by omega)
            rw [h0]
            clear hm2 h0
            generalize unkM m' = m'' at *
            go_wp2
            exact ⟨⟨m'', S2, i, w4, rfl, by congr 1; omega, hls, by omega, HM4.out, HO4.out, HG4.out, HB5.out⟩, by simp [intOf]; omega⟩
          · have h0' : (unkC m' != 0) = true := by simpa using h0
            have HC2 := Lib.hid (show utC m (kn : Int) = unkC m' by rw [HC.out, HGq.out, hunf.out, if_neg h0])
            have hb9 := Lib.hid (HBAD.out (by rw [HC2.out]; exact h0))
            clear hm2 h0
            generalize unkC m' = cc at *
            obtain ⟨r0, r1, r2, r3, r4, r5, r6⟩ := CellsAt.seven HRZ.out.1
            have rf := HRZ.out.2.1
            have hsz := HB6.out.size
            go_wp2
            refine bodyPost_ret (v := .tuple #[.agg (mcV 0 0 (.slice none 0 0) (.slice none 0 0) (.slice none 0 0) (.slice none 0 0) (.slice none 0 0)), .int .i64 0, .int .i64 cc]) (by simp [results, Try.results15, go_sem, r0, r1, r2, r3, r4, r5, r6, World.cell?_setCell_other]) rfl ?_
            exact ⟨_, by rw [HC2.out, hb9.out.2], by rw [hb9.out.1]; exact OwMs.nil _ _ _ (by simp; exact hsz) (Nat.le_refl _), ((((((HB6.out.setCell (Nat.le_succ _) _).setCell (Nat.le_succ _) _).setCell (Nat.le_succ _) _).setCell (Nat.le_succ _) _).setCell (Nat.le_succ _) _).setCell (Nat.le_succ _) _).setCell (Nat.le_succ _) _⟩
set_option maxHeartbeats 8000000 in
set_option maxRecDepth 100000 in
theorem implUnkTo_any (v : Value) (m : Mc) (k : Int) (w : World) (hl : RdM w w.heap.size v m) (hf : FitM m) : Calls Try.prog 16 #[v, .int .i64 k] w (GivesMs3 w (utR m k) (utS m k) (utC m k)) := by
  have hdr := hf.dr
  have HFT := Lib.hid hf
  have hl0 := hl
  obtain ⟨f, b, cs, ls, d, rfl, h1, h2, h3, h4, h5, h6⟩ := hl
  obtain ⟨AF, cF, rfl⟩ := RdN.shape h1
  obtain ⟨AG, cG, rfl⟩ := RdN.shape h2
  obtain ⟨AC, cC, rfl⟩ := RdS.lens h3
  obtain ⟨AI, cI, rfl⟩ := RdN.shape h4
  obtain ⟨AD, cD, rfl⟩ := RdI.len h5
  have BW := Lib.hid (show Below w.heap.size w (w.alloc (.cells #[.int .i64 m.wd, .int .i64 m.rk, .slice AF m.fr.length cF, .slice AG m.bk.length cG, .slice AC m.cs.length cC, .slice AI m.ls.length cI, .slice AD m.dr.length cD] 32)) from (Below.refl _ _).alloc (Nat.le_refl _) _)
  have HP := Lib.hid (RdP.box (T := 32) h1 h2 h3 h4 h5 h6)
  have HM := Lib.hid (hl0.up BW.out BW.out.size)
  clear h1 h2 h3 h4 h5 h6 hl0
  have hb0 := Bx.new w (mcV m.wd m.rk (.slice AF m.fr.length cF) (.slice AG m.bk.length cG) (.slice AC m.cs.length cC) (.slice AI m.ls.length cI) (.slice AD m.dr.length cD)).toList 32
  have HX0 := Lib.hid (hb0.alloc (.cells zeroM.toArray 32))
  have hr0 := Bx.new (w.alloc (.cells (mcV m.wd m.rk (.slice AF m.fr.length cF) (.slice AG m.bk.length cG) (.slice AC m.cs.length cC) (.slice AI m.ls.length cI) (.slice AD m.dr.length cD)) 32)) zeroM 32
  rw [World.size_alloc] at hr0
  have HR0 := Lib.hid hr0
  have hbA := (Below.refl (w.alloc (.cells (mcV m.wd m.rk (.slice AF m.fr.length cF) (.slice AG m.bk.length cG) (.slice AC m.cs.length cC) (.slice AI m.ls.length cI) (.slice AD m.dr.length cD)) 32)).heap.size (w.alloc (.cells (mcV m.wd m.rk (.slice AF m.fr.length cF) (.slice AG m.bk.length cG) (.slice AC m.cs.length cC) (.slice AI m.ls.length cI) (.slice AD m.dr.length cD)) 32))).alloc (Nat.le_refl _) (.cells zeroM.toArray 32)
  have HP2 := Lib.hid (HP.out.below hbA)
  have HM2 := Lib.hid (HM.out.up hbA hbA.size)
  have HB2 := Lib.hid (BW.out.trans (hbA.mono BW.out.size))
  clear hb0 hr0 hbA hf HP HM BW
  cases hok : okM m
  · have hc := Lib.hid (show utC m k = 1 by unfold utC; rw [if_pos hok])
    have hm := Lib.hid (show utR m k = nilMc by unfold utR; rw [if_neg (by rw [hc.out]; decide)])
    have hs := Lib.hid (show utS m k = 0 by unfold utS; rw [if_neg (by rw [hc.out]; decide)])
    have HK := Lib.hid hok
    clear hok
    go_enter Try.func16, Try.ntmps16
    go_wp2_with fail
    refine (validMachine_any _ m _ HM2.out).mono ?_
    rintro e w2 ⟨rfl, hb⟩
    rw [HK.out]
    have HB3 := Lib.hid (HB2.out.trans (hb.mono HB2.out.size))
    have HRX := Lib.hid (HR0.out.below hb HR0.out.2.2)
    clear hb
    obtain ⟨r0, r1, r2, r3, r4, r5, r6⟩ := CellsAt.seven HRX.out.1
    have rf := HRX.out.2.1
    have hsz := HB3.out.size
    go_wp2
    refine bodyPost_ret (v := .tuple #[.agg (mcV 0 0 (.slice none 0 0) (.slice none 0 0) (.slice none 0 0) (.slice none 0 0) (.slice none 0 0)), .int .i64 0, .int .i64 1]) (by simp [results, Try.results16, go_sem, r0, r1, r2, r3, r4, r5, r6, World.cell?_setCell_other]) rfl ?_
    exact ⟨_, by rw [hc.out, hs.out], by rw [hm.out]; exact OwMs.nil _ _ _ (by simp; exact hsz) (Nat.le_refl _), ((((((HB3.out.setCell (Nat.le_succ _) _).setCell (Nat.le_succ _) _).setCell (Nat.le_succ _) _).setCell (Nat.le_succ _) _).setCell (Nat.le_succ _) _).setCell (Nat.le_succ _) _).setCell (Nat.le_succ _) _⟩
  · have HK := Lib.hid hok
    have HOK := Lib.hid (okM_iff.1 hok)
    have hokt := hok
    have HIN := Lib.hid (fun (h : inB 0 k (m.ls.length : Int) = false) => show utC m k = 2 by unfold utC; rw [if_neg (by rw [hok]; decide), if_pos h])
    have HGO := Lib.hid (fun (h : inB 0 k (m.ls.length : Int) = true) => show utC m k = (utGo (m.ls.length - k.toNat) m).1 by unfold utC; rw [if_neg (by rw [hok]; decide), if_neg (by rw [h]; decide)])
    have HBAD := Lib.hid (fun (h : utC m k ≠ 0) => And.intro (show utR m k = nilMc by unfold utR; rw [if_neg h]) (show utS m k = 0 by unfold utS; rw [if_neg h]))
    have HGOOD := Lib.hid (fun (h : utC m k = 0) => And.intro (show utR m k = (utGo (m.ls.length - k.toNat) m).2 by unfold utR; rw [if_pos h]) (show utS m k = (m.ls.length : Int) - k by unfold utS; rw [if_pos h]))
    clear hok
    go_enter Try.func16, Try.ntmps16
    go_wp2_with fail
    generalize (w.alloc (.cells (mcV m.wd m.rk (.slice AF m.fr.length cF) (.slice AG m.bk.length cG) (.slice AC m.cs.length cC) (.slice AI m.ls.length cI) (.slice AD m.dr.length cD)) 32)).alloc (.cells zeroM.toArray 32) = W1 at *
    refine (validMachine_any _ m _ HM2.out).mono ?_
    rintro e w2 ⟨rfl, hb⟩
    rw [HK.out]
    have HB3 := Lib.hid (HB2.out.trans (hb.mono HB2.out.size))
    have HP3 := Lib.hid (HP2.out.below hb)
    have HM3 := Lib.hid (HM2.out.up hb hb.size)
    have HRX := Lib.hid (HR0.out.below hb HR0.out.2.2)
    have HX3 := Lib.hid (HX0.out.below hb HX0.out.2.2)
    obtain ⟨y0, y1, y2, y3, y4, y5, y6⟩ := CellsAt.seven HX3.out.1
    have hlt3 : w.heap.size + 1 < w2.heap.size := HRX.out.2.2
    have h300 : m.ls.length ≤ 300 := HOK.out.ls
    clear hb HB2 HP2 HM2 HR0 HX0
    cases hin : inB 0 k (m.ls.length : Int)
    · have hc := Lib.hid (HIN.out hin)
      have hb9 := Lib.hid (HBAD.out (by rw [hc.out]; decide))
      have HI := Lib.hid hin
      obtain ⟨r0, r1, r2, r3, r4, r5, r6⟩ := CellsAt.seven HRX.out.1
      have rf := HRX.out.2.1
      have hsz := HB3.out.size
      clear hin hokt
      go_wp2_with (go_at_call 60; refine (within_s _ _ _ _).mono ?_; rintro e w' ⟨rfl, rfl⟩; rw [HI.out])
      refine bodyPost_ret (v := .tuple #[.agg (mcV 0 0 (.slice none 0 0) (.slice none 0 0) (.slice none 0 0) (.slice none 0 0) (.slice none 0 0)), .int .i64 0, .int .i64 2]) (by simp [results, Try.results16, go_sem, r0, r1, r2, r3, r4, r5, r6, World.cell?_setCell_other]) rfl ?_
      exact ⟨_, by rw [hc.out, hb9.out.2], by rw [hb9.out.1]; exact OwMs.nil _ _ _ (by simp; exact hsz) (Nat.le_refl _), ((((((HB3.out.setCell (Nat.le_succ _) _).setCell (Nat.le_succ _) _).setCell (Nat.le_succ _) _).setCell (Nat.le_succ _) _).setCell (Nat.le_succ _) _).setCell (Nat.le_succ _) _).setCell (Nat.le_succ _) _⟩
    · have HI := Lib.hid hin
      obtain ⟨hk0, hk1⟩ := inB_iff.1 hin
      obtain ⟨kn, rfl⟩ := Int.eq_ofNat_of_zero_le hk0
      have HC := Lib.hid (show utC m (kn : Int) = (utGo (m.ls.length - kn) m).1 from HGO.out hin)
      have hgd : utC m (kn : Int) = 0 → utR m (kn : Int) = (utGo (m.ls.length - kn) m).2 ∧ utS m (kn : Int) = (m.ls.length : Int) - (kn : Int) := HGOOD.out
      have HGD := Lib.hid hgd
      clear hin hgd
      go_wp2_with (go_at_call 60; refine (within_s _ _ _ _).mono ?_; rintro e w' ⟨rfl, rfl⟩; rw [HI.out])
      refine (copyMachine_any _ m w2 HM3.out HFT.out).mono ?_
      rintro e w3 ⟨S0, g0, rfl, hM0, hB0⟩
      have hz3 : w2.heap.size ≤ w3.heap.size := hB0.size
      obtain ⟨S1, hM1, hS1, -⟩ := hM0.rebox hz3
      obtain ⟨A1, c1, A2, c2, A3, c3, A4, c4, A5, c5, q1, q2, q3, q4, q5⟩ := hM0.slices
      rw [q1, q2, q3, q4, q5] at hM1
      rw [q1, q2, q3, q4, q5]
      have M1 := Lib.hid hM1
      have B0 := Lib.hid (hB0.alloc hz3 (.cells (mcV m.wd m.rk (.slice A1 m.fr.length c1) (.slice A2 m.bk.length c2) (.slice A3 m.cs.length c3) (.slice A4 m.ls.length c4) (.slice A5 m.dr.length c5)) 32))
      clear hM1 hM0 hB0 q1 q2 q3 q4 q5 hS1 hokt y0 y1 y2 y3 y4 y5 y6 hdr
      go_wp2_with fail
      have hw3 : w3.heap.size = w3.heap.size := rfl
      generalize hW4 : w3.alloc (.cells (mcV m.wd m.rk (.slice A1 m.fr.length c1) (.slice A2 m.bk.length c2) (.slice A3 m.cs.length c3) (.slice A4 m.ls.length c4) (.slice A5 m.dr.length c5)) 32) = W4 at *
      generalize w3.heap.size = g2 at *
      clear hW4 hw3
      go_loopw [8] (fun n wr => ∃ (m' : Mc) (S' : Nat → Spot) (j : Nat) (wq : World), wq = wr ∧ n = .int .i64 ((m.ls.length : Int) - (m'.ls.length : Int)) ∧ m'.ls.length = j + kn ∧ m'.ls.length ≤ m.ls.length ∧ Hid (MSt wq w2.heap.size g2 m' S') ∧ Hid (OkP m') ∧ Hid (utGo (m.ls.length - kn) m = utGo j m') ∧ Hid (Below w2.heap.size w2 wq)) (fun n _ => m.ls.length - (intOf n).toNat)
      case atStart => exact ⟨m, S1, m.ls.length - kn, _, rfl, by simp, by omega, Nat.le_refl _, M1.out, HOK.out, rfl, B0.out⟩
      case round =>
        obtain ⟨m', S', j, wq, hwq, rfl, hj, hle, HMq, HOq, HGq, HBq⟩ := hrel
        subst hwq
        have HB4 := Lib.hid (HB3.out.trans (HBq.out.mono HB3.out.size))
        have HRY := Lib.hid (HRX.out.below HBq.out hlt3)
        obtain ⟨x0, x1, x2, x3, x4, x5, x6⟩ := HMq.out.cells.seven
        obtain ⟨A1', c1', A2', c2', A3', c3', A4', c4', A5', c5', q1, q2, q3, q4, q5⟩ := HMq.out.slices
        rw [q4] at x5
        by_cases hj0 : j = 0
        · subst hj0
          have hlen : ¬ ((kn : Int) < (m'.ls.length : Int)) := by omega
          have HC2 := Lib.hid (show utC m (kn : Int) = 0 by rw [HC.out, HGq.out]; rfl)
          have HE := Lib.hid (show utR m (kn : Int) = m' by rw [(HGD.out HC2.out).1, HGq.out]; rfl)
          have HS := Lib.hid (show utS m (kn : Int) = (m.ls.length : Int) - (m'.ls.length : Int) by rw [(HGD.out HC2.out).2]; omega)
          rw [q1] at x2
          rw [q2] at x3
          rw [q3] at x4
          rw [q5] at x6
          obtain ⟨r0, r1, r2, r3, r4, r5, r6⟩ := CellsAt.seven HRY.out.1
          have rf := HRY.out.2.1
          have hsz := HBq.out.size
          have HOW := OwMs.of_mst HMq.out (by omega)
          rw [q1, q2, q3, q4, q5] at HOW
          have HOW4 := Lib.hid HOW
          clear q1 q2 q3 q4 q5 HOW hj hle
          go_wp2
          refine bodyPost_ret (v := .tuple #[.agg (mcV m'.wd m'.rk (.slice A1' m'.fr.length c1') (.slice A2' m'.bk.length c2') (.slice A3' m'.cs.length c3') (.slice A4' m'.ls.length c4') (.slice A5' m'.dr.length c5')), .int .i64 ((m.ls.length : Int) - (m'.ls.length : Int)), .int .i64 0]) (by simp [results, Try.results16, go_sem, r0, r1, r2, r3, r4, r5, r6, World.cell?_setCell_other]) rfl ?_
          refine ⟨_, by rw [HC2.out, HS.out], ?_, ((((((HB4.out.setCell (Nat.le_succ _) _).setCell (Nat.le_succ _) _).setCell (Nat.le_succ _) _).setCell (Nat.le_succ _) _).setCell (Nat.le_succ _) _).setCell (Nat.le_succ _) _).setCell (Nat.le_succ _) _⟩
          rw [HE.out]
          exact (HOW4.out.only (only_set7 _ _ _ _ _ _ _ _ _) (.inr hlt3) (Nat.le_refl _)).wide (by omega) (by simp) (Nat.le_refl _)
        · obtain ⟨i, rfl⟩ : ∃ i, j = i + 1 := ⟨j - 1, by omega⟩
          have hlen : (kn : Int) < (m'.ls.length : Int) := by omega
          have hszq := HBq.out.size
          have HQ := Lib.hid (unknit_any HMq.out (show w2.heap.size ≤ _ by omega) HOq.out)
          clear q1 q2 q3 q4 q5 hj0
          go_wp2_with fail
          refine (HQ.out).mono ?_
          rintro e w4 ⟨rfl, S2, hv2, hm2⟩
          have hb4 := hv2.below HMq.out.sp (show w2.heap.size ≤ _ by omega)
          have HB5 := Lib.hid (HBq.out.trans hb4)
          have HB6 := Lib.hid (HB3.out.trans ((HBq.out.trans hb4).mono HB3.out.size))
          have HRZ := Lib.hid (HRX.out.below (HBq.out.trans hb4) hlt3)
          have hunf := Lib.hid (show utGo (i + 1) m' = if unkC m' = 0 then utGo i (unkM m') else (unkC m', m') from rfl)
          clear hv2 hb4 HQ x0 x1 x2 x3 x4 x5 x6
          by_cases h0 : unkC m' = 0
          · have HM4 := Lib.hid (hm2 h0)
            have HO4 := Lib.hid (HOq.out.unk h0)
            have HG4 := Lib.hid (HGq.out.trans (hunf.out.trans (if_pos h0)))
            have hls := unkM_len (show m'.ls.length = (i + kn) + 1 by omega)
            rw [h0]
            clear hm2 h0
            generalize unkM m' = m'' at *
            go_wp2
            exact ⟨⟨m'', S2, i, w4, rfl, by congr 1; omega, hls, by omega, HM4.out, HO4.out, HG4.out, HB5.out⟩, by simp [intOf]; omega⟩
          · have h0' : (unkC m' != 0) = true := by simpa using h0
            have HC2 := Lib.hid (show utC m (kn : Int) = unkC m' by rw [HC.out, HGq.out, hunf.out, if_neg h0])
            have hb9 := Lib.hid (HBAD.out (by rw [HC2.out]; exact h0))
            clear hm2 h0
            generalize unkC m' = cc at *
            obtain ⟨r0, r1, r2, r3, r4, r5, r6⟩ := CellsAt.seven HRZ.out.1
            have rf := HRZ.out.2.1
            have hsz := HB6.out.size
            go_wp2
            refine bodyPost_ret (v := .tuple #[.agg (mcV 0 0 (.slice none 0 0) (.slice none 0 0) (.slice none 0 0) (.slice none 0 0) (.slice none 0 0)), .int .i64 0, .int .i64 cc]) (by simp [results, Try.results16, go_sem, r0, r1, r2, r3, r4, r5, r6, World.cell?_setCell_other]) rfl ?_
            exact ⟨_, by rw [HC2.out, hb9.out.2], by rw [hb9.out.1]; exact OwMs.nil _ _ _ (by simp; exact hsz) (Nat.le_refl _), ((((((HB6.out.setCell (Nat.le_succ _) _).setCell (Nat.le_succ _) _).setCell (Nat.le_succ _) _).setCell (Nat.le_succ _) _).setCell (Nat.le_succ _) _).setCell (Nat.le_succ _) _).setCell (Nat.le_succ _) _⟩

end Go.Proofs.Ytmcalioldphfeaa
