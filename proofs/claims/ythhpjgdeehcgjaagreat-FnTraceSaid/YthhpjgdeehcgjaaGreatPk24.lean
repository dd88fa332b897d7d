/-
  Texts joined: RdMo, McSh, StmT, DrD, OpenB, FtB.
-/
import Derived.Test.YthhpjgdeehcgjaaGreatPk10
import Derived.Test.YthhpjgdeehcgjaaGreatMc
import Derived.Test.YthhpjgdeehcgjaaGreatPk18
import Derived.Test.YthhpjgdeehcgjaaGreatPk23
import Derived.Test.YthhpjgdeehcgjaaGreatPk8
import Derived.Test.YthhpjgdeehcgjaaGreatPk7
import Derived.Test.YthhpjgdeehcgjaaGreatOpen
/-
  Machines by value whose rows lie from a block on.
-/
namespace Go.Proofs.YthhpjgdeehcgjaaGreat
set_option linter.unusedVariables false
set_option linter.unusedSimpArgs false
open Go.RowKit

theorem OkP.small {m : Mc} (h : OkP m) : m.fr.length ≤ 24 ∧ m.bk.length ≤ 24 ∧ m.cs.length = 4 ∧ m.ls.length ≤ 300 ∧ m.dr.length ≤ 300 ∧ (∀ x ∈ m.fr, x.length ≤ 4) ∧ (∀ x ∈ m.bk, x.length ≤ 4) ∧ (∀ x ∈ m.ls, x.ps.length ≤ 4) := by
  have h1 := h.wd
  have h2 := h.fr
  have h3 := h.bk
  refine ⟨by omega, by omega, h.cs, h.ls, h.drlen, h.f4, h.b4, fun x hx => ?_⟩
  obtain ⟨j, hj⟩ := List.mem_iff_getElem?.1 hx
  exact (ok_loop (okM_iff.2 h) hj).2
theorem SmM.of {m : Mc} (h : OkP m) : SmM m := by
  obtain ⟨h1, h2, h3, h4, h5, h6, h7, h8⟩ := h.small
  exact ⟨by omega, by omega, by omega, by omega, by omega, fun x hx => by have := h6 x hx; omega, fun x hx => by have := h7 x hx; omega, fun x hx => by have := h8 x hx; omega⟩
/-- A machine whose rows lie from block B on. -/
def RdMo (w : World) (B : Nat) (v : Value) (m : Mc) : Prop := ∀ wy : World, (∀ q, B ≤ q → q < w.heap.size → wy.heap[q]? = w.heap[q]?) → w.heap.size ≤ wy.heap.size → RdM wy wy.heap.size v m
theorem RdMo.rd {w : World} {B : Nat} {v : Value} {m : Mc} (h : RdMo w B v m) : RdM w w.heap.size v m := h w (fun _ _ _ => rfl) (Nat.le_refl _)
theorem RdMo.keep {w w' : World} {B B' : Nat} {v : Value} {m : Mc} (h : RdMo w B v m) (hB : B' ≤ B) (hk : ∀ q, B ≤ q → q < w.heap.size → w'.heap[q]? = w.heap[q]?) (hz : w.heap.size ≤ w'.heap.size) : RdMo w' B' v m :=
  fun wy h1 h2 => h wy (fun q hq hl => (h1 q (by omega) (by omega)).trans (hk q hq hl)) (by omega)
theorem RdMo.below {w w' : World} {B B' : Nat} {v : Value} {m : Mc} (h : RdMo w B v m) (hB : B' ≤ B) (hb : Below w.heap.size w w') : RdMo w' B' v m := h.keep hB (fun q _ hl => hb.block q hl) hb.size
theorem RdMo.only {w w' : World} {B B' gs : Nat} {v : Value} {m : Mc} (h : RdMo w B v m) (hB : B' ≤ B) (ho : Only gs (gs + 1) w w') (hg : gs < B) : RdMo w' B' v m := h.keep hB (fun q hq hl => ho.block q hl (by omega)) ho.size
theorem MSt.rdo {w : World} {B g : Nat} {m : Mc} {S : Nat → Spot} (h : MSt w B g m S) : RdMo w B (.agg (mcV m.wd m.rk (S 1).v (S 2).v (S 3).v (S 4).v (S 5).v)) m :=
  fun wy hk hz => (h.keep (fun j q hq => hk q (h.sp.lt hq).1 (h.sp.lt hq).2)).val

end Go.Proofs.YthhpjgdeehcgjaaGreat

/-
  The form of a machine that is read by value.
-/
namespace Go.Proofs.YthhpjgdeehcgjaaGreat
set_option linter.unusedVariables false
set_option linter.unusedSimpArgs false
open Go.RowKit

theorem RdM.shape {w : World} {B : Nat} {v : Value} {m : Mc} (h : RdM w B v m) : ∃ AF cF AG cG AC cC AI cI AD cD, v = .agg #[.int .i64 m.wd, .int .i64 m.rk, .slice AF m.fr.length cF, .slice AG m.bk.length cG, .slice AC m.cs.length cC, .slice AI m.ls.length cI, .slice AD m.dr.length cD] := by
  obtain ⟨f, b, cs, ls, d, rfl, h1, h2, h3, h4, h5, h6⟩ := h
  obtain ⟨AF, cF, rfl⟩ := RdN.shape h1
  obtain ⟨AG, cG, rfl⟩ := RdN.shape h2
  obtain ⟨AC, cC, rfl⟩ := RdS.lens h3
  obtain ⟨AI, cI, rfl⟩ := RdN.shape h4
  obtain ⟨AD, cD, rfl⟩ := RdI.len h5
  exact ⟨_, _, _, _, _, _, _, _, _, _, rfl⟩

end Go.Proofs.YthhpjgdeehcgjaaGreat

/-
  The reference's StepMachine, LiveLoops and NewMachine at valid machines and operations that can be executed.
-/
namespace Go.Proofs.YthhpjgdeehcgjaaGreat
set_option linter.unusedVariables false
set_option linter.unusedSimpArgs false
open Go.RowKit

theorem set7_hp (W : World) (b : Nat) (u0 u1 u2 u3 u4 u5 u6 : Value) (q : Nat) (hq : q ≠ b) : (((((((W.setCell ⟨b, 0, none⟩ u0).setCell ⟨b, 1, none⟩ u1).setCell ⟨b, 2, none⟩ u2).setCell ⟨b, 3, none⟩ u3).setCell ⟨b, 4, none⟩ u4).setCell ⟨b, 5, none⟩ u5).setCell ⟨b, 6, none⟩ u6).heap[q]? = W.heap[q]? := by
  have s : ∀ (X : World) (i : Nat) (u : Value), (X.setCell ⟨b, i, none⟩ u).heap[q]? = X.heap[q]? := fun X i u => Below.heap_setCell _ _ _ _ (by show q ≠ b; exact hq)
  rw [s, s, s, s, s, s, s]
/-- A machine that was made. -/
def GivesMo (w : World) (m : Mc) (e : Ending) (w' : World) : Prop := ∃ v, e = .returned (.tuple #[v, .int .i64 0]) ∧ RdMo w' w.heap.size v m ∧ Below w.heap.size w w'

set_option maxHeartbeats 8000000 in
set_option maxRecDepth 100000 in
theorem stepT_any (v : Value) (m : Mc) (x : Opr) (w : World) (hl : RdM w w.heap.size v m) (hf : FitM m) (hok : okM m = true) (hop : okOpW m.wd x = true) (h0 : doCode m x = 0) : Calls Tryz.prog 9 #[v, x.v] w (GivesMo w (doTo m x)) := by
  have hdr := hf.dr
  have hl0 := hl
  obtain ⟨f, b, cs, ls, d, rfl, h1, h2, h3, h4, h5, h6⟩ := hl
  obtain ⟨AF, cF, rfl⟩ := RdN.shape h1
  obtain ⟨AG, cG, rfl⟩ := RdN.shape h2
  obtain ⟨AC, cC, rfl⟩ := RdS.lens h3
  obtain ⟨AI, cI, rfl⟩ := RdN.shape h4
  obtain ⟨AD, cD, rfl⟩ := RdI.len h5
  have BW := Lib.hid (show Below w.heap.size w (w.alloc (.cells #[.int .i64 m.wd, .int .i64 m.rk, .slice AF m.fr.length cF, .slice AG m.bk.length cG, .slice AC m.cs.length cC, .slice AI m.ls.length cI, .slice AD m.dr.length cD] 34)) from (Below.refl _ _).alloc (Nat.le_refl _) _)
  have HP := Lib.hid (RdP.box (T := 34) h1 h2 h3 h4 h5 h6)
  have HM := Lib.hid (hl0.up BW.out BW.out.size)
  clear h1 h2 h3 h4 h5 h6 hl0
  have hbA := (((Below.refl (w.alloc (.cells (mcV m.wd m.rk (.slice AF m.fr.length cF) (.slice AG m.bk.length cG) (.slice AC m.cs.length cC) (.slice AI m.ls.length cI) (.slice AD m.dr.length cD)) 34)).heap.size (w.alloc (.cells (mcV m.wd m.rk (.slice AF m.fr.length cF) (.slice AG m.bk.length cG) (.slice AC m.cs.length cC) (.slice AI m.ls.length cI) (.slice AD m.dr.length cD)) 34))).alloc (Nat.le_refl _) (.cells [.int .i64 x.k, .int .i64 x.d, .int .i64 x.fb, .int .i64 x.fa, .int .i64 x.tb, .int .i64 x.ta, .int .i64 x.c, .int .i64 x.r].toArray 41)).alloc (by simp) (.cells zeroM.toArray 34))
  have ho0 := (Bx.new (w.alloc (.cells (mcV m.wd m.rk (.slice AF m.fr.length cF) (.slice AG m.bk.length cG) (.slice AC m.cs.length cC) (.slice AI m.ls.length cI) (.slice AD m.dr.length cD)) 34)) [.int .i64 x.k, .int .i64 x.d, .int .i64 x.fb, .int .i64 x.fa, .int .i64 x.tb, .int .i64 x.ta, .int .i64 x.c, .int .i64 x.r] 41).alloc (.cells zeroM.toArray 34)
  have hr0 := Bx.new ((w.alloc (.cells (mcV m.wd m.rk (.slice AF m.fr.length cF) (.slice AG m.bk.length cG) (.slice AC m.cs.length cC) (.slice AI m.ls.length cI) (.slice AD m.dr.length cD)) 34)).alloc (.cells [.int .i64 x.k, .int .i64 x.d, .int .i64 x.fb, .int .i64 x.fa, .int .i64 x.tb, .int .i64 x.ta, .int .i64 x.c, .int .i64 x.r].toArray 41)) zeroM 34
  simp only [World.size_alloc] at ho0 hr0
  have HO0 := Lib.hid ho0
  have HR0 := Lib.hid hr0
  have hx0 : CellsAt (w.alloc (.cells (mcV m.wd m.rk (.slice AF m.fr.length cF) (.slice AG m.bk.length cG) (.slice AC m.cs.length cC) (.slice AI m.ls.length cI) (.slice AD m.dr.length cD)) 34)) w.heap.size 0 (mcV m.wd m.rk (.slice AF m.fr.length cF) (.slice AG m.bk.length cG) (.slice AC m.cs.length cC) (.slice AI m.ls.length cI) (.slice AD m.dr.length cD)).toList := CellsAt.of_alloc
  have HX0 := Lib.hid (hx0.below hbA (by simp))
  have HP2 := Lib.hid (HP.out.below hbA)
  have HB2 := Lib.hid (BW.out.trans (hbA.mono BW.out.size))
  clear ho0 hr0 hbA hf HP HM BW hx0
  have HK := Lib.hid hok
  have HOK := Lib.hid (okM_iff.1 hok)
  have HOPW := Lib.hid hop
  have H0 := Lib.hid h0
  obtain ⟨hop1, hfa, hta⟩ := okOpW_iff.1 hop
  have HOP := Lib.hid hop1
  have HFIT := Lib.hid (show (decide (x.fa < m.wd) && decide (x.ta < m.wd)) = true by simp [hfa, hta])
  clear hok hop h0 hop1 hfa hta
  go_enter Tryz.func9, Tryz.ntmps9
  go_wp2_with fail
  generalize ((w.alloc (.cells (mcV m.wd m.rk (.slice AF m.fr.length cF) (.slice AG m.bk.length cG) (.slice AC m.cs.length cC) (.slice AI m.ls.length cI) (.slice AD m.dr.length cD)) 34)).alloc (.cells #[.int .i64 x.k, .int .i64 x.d, .int .i64 x.fb, .int .i64 x.fa, .int .i64 x.tb, .int .i64 x.ta, .int .i64 x.c, .int .i64 x.r] 41)).alloc (.cells zeroM.toArray 34) = W1 at *
  refine (l07Ok_p m _ _ HP2.out hdr).mono ?_
  rintro e w2 ⟨rfl, hb⟩
  rw [HK.out]
  have HB3 := Lib.hid (HB2.out.trans (hb.mono HB2.out.size))
  have HP3 := Lib.hid (HP2.out.below hb)
  have HR3 := Lib.hid (HR0.out.below hb HR0.out.2.2)
  have HO3 := Lib.hid (HO0.out.below hb HO0.out.2.2)
  have HX3 := Lib.hid (HX0.out.below hb (by have := HR0.out.2.2; omega))
  have hlt3 : w.heap.size + 1 + 1 < w2.heap.size := HR3.out.2.2
  clear hb HB2 HP2 HR0 HO0 HX0
  go_wp2_with fail
  refine (l07Op_any x _ _ w2 (show CellsAt w2 (w.heap.size + 1) 0 x.cells from HO3.out.1)).mono ?_
  rintro e w3 ⟨rfl, hb⟩
  rw [HOP.out]
  have HB4 := Lib.hid (HB3.out.trans (hb.mono HB3.out.size))
  have HP4 := Lib.hid (HP3.out.below hb)
  have HRX := Lib.hid (HR3.out.below hb HR3.out.2.2)
  have HO4 := Lib.hid (HO3.out.below hb HO3.out.2.2)
  have HX4 := Lib.hid (HX3.out.below hb (by omega))
  have hlt4 : w.heap.size + 1 + 1 < w3.heap.size := HRX.out.2.2
  clear hb HB3 HP3 HR3 HO3 HX3
  obtain ⟨y0, y1, y2, y3, y4, y5, y6⟩ := CellsAt.seven HX4.out
  go_wp2_with fail
  refine (l07Fits_any x m.wd _ _ w3 (show CellsAt w3 (w.heap.size + 1) 0 x.cells from HO4.out.1)).mono ?_
  rintro e w4 ⟨rfl, rfl⟩
  rw [HFIT.out]
  clear y0 y1 y2 y3 y4 y5 y6
  go_wp2_with fail
  refine (l07Own_any m w.heap.size w3 HP4.out HK.out).mono ?_
  rintro e w5 ⟨S0, g0, rfl, hM0, hB0⟩
  have hz3 : w3.heap.size ≤ w5.heap.size := hB0.size
  obtain ⟨S1, hM1, hS1, -⟩ := hM0.rebox hz3
  obtain ⟨A1, c1, A2, c2, A3, c3, A4, c4, A5, c5, q1, q2, q3, q4, q5⟩ := hM0.slices
  rw [q1, q2, q3, q4, q5] at hM1
  rw [q1, q2, q3, q4, q5]
  have M1 := Lib.hid hM1
  have hB0' := hB0.alloc hz3 (.cells (mcV m.wd m.rk (.slice A1 m.fr.length c1) (.slice A2 m.bk.length c2) (.slice A3 m.cs.length c3) (.slice A4 m.ls.length c4) (.slice A5 m.dr.length c5)) 34)
  have B0 := Lib.hid hB0'
  have HO5 := HO4.out.below hB0' (by omega)
  have HQ := Lib.hid (l07Do_any hM1 (show w3.heap.size ≤ _ by simp; omega) x (w.heap.size + 1) 0 HO5.1 (hM1.not_blk (by omega)) HK.out HOPW.out)
  clear hM1 hM0 hB0 q1 q2 q3 q4 q5 hS1 hdr hB0' HO5
  go_wp2_with fail
  refine (HQ.out).mono ?_
  rintro e w6 ⟨rfl, S2, hv2, hm2⟩
  rw [H0.out]
  have hb4 := hv2.below M1.out.sp (show w3.heap.size ≤ _ by simp; omega)
  have HB5 := Lib.hid (HB4.out.trans ((B0.out.trans hb4).mono HB4.out.size))
  have HRY := Lib.hid ((HRX.out.below (B0.out.trans hb4) hlt4))
  obtain ⟨r0, r1, r2, r3, r4, r5, r6⟩ := CellsAt.seven HRY.out.1
  have rf := HRY.out.2.1
  have hsz := HB5.out.size
  clear hv2 hb4 HQ B0 M1
  have hM4 := hm2 H0.out
  generalize doTo m x = m' at *
  obtain ⟨A1', c1', A2', c2', A3', c3', A4', c4', A5', c5', q1, q2, q3, q4, q5⟩ := hM4.slices
  obtain ⟨x0, x1, x2, x3, x4, x5, x6⟩ := hM4.cells.seven
  rw [q1] at x2
  rw [q2] at x3
  rw [q3] at x4
  rw [q4] at x5
  rw [q5] at x6
  have HOW := hM4.rdo
  rw [q1, q2, q3, q4, q5] at HOW
  have HOW4 := Lib.hid HOW
  clear hM4 hm2 q1 q2 q3 q4 q5 HOW
  go_wp2
  refine bodyPost_ret (v := .tuple #[.agg (mcV m'.wd m'.rk (.slice A1' m'.fr.length c1') (.slice A2' m'.bk.length c2') (.slice A3' m'.cs.length c3') (.slice A4' m'.ls.length c4') (.slice A5' m'.dr.length c5')), .int .i64 0]) (by simp [results, Tryz.results9, go_sem, r0, r1, r2, r3, r4, r5, r6, World.cell?_setCell_other]) rfl ?_
  refine ⟨_, rfl, ?_, ((((((HB5.out.setCell (by show w.heap.size ≤ w.heap.size + 1 + 1; omega) _).setCell (by show w.heap.size ≤ w.heap.size + 1 + 1; omega) _).setCell (by show w.heap.size ≤ w.heap.size + 1 + 1; omega) _).setCell (by show w.heap.size ≤ w.heap.size + 1 + 1; omega) _).setCell (by show w.heap.size ≤ w.heap.size + 1 + 1; omega) _).setCell (by show w.heap.size ≤ w.heap.size + 1 + 1; omega) _).setCell (by show w.heap.size ≤ w.heap.size + 1 + 1; omega) _⟩
  exact HOW4.out.keep (by omega) (fun q hq hl => set7_hp _ _ _ _ _ _ _ _ _ q (by omega)) (by simp)

set_option maxHeartbeats 4000000 in
set_option maxRecDepth 100000 in
theorem liveT_any (v : Value) (m : Mc) (w : World) (hl : RdM w w.heap.size v m) (hf : FitM m) (hok : okM m = true) :
    Calls Tryz.prog 10 #[v] w (GivesC w 2 1 (liveL m).length (vI (liveL m)) 0) := by
  have hdr := hf.dr
  have hl0 := hl
  obtain ⟨f, b, cs, ls, d, rfl, h1, h2, h3, h4, h5, h6⟩ := hl
  obtain ⟨AF, cF, rfl⟩ := RdN.shape h1
  obtain ⟨AG, cG, rfl⟩ := RdN.shape h2
  obtain ⟨AC, cC, rfl⟩ := RdS.lens h3
  obtain ⟨AI, cI, rfl⟩ := RdN.shape h4
  obtain ⟨AD, cD, rfl⟩ := RdI.len h5
  have BW := Lib.hid (show Below w.heap.size w (w.alloc (.cells #[.int .i64 m.wd, .int .i64 m.rk, .slice AF m.fr.length cF, .slice AG m.bk.length cG, .slice AC m.cs.length cC, .slice AI m.ls.length cI, .slice AD m.dr.length cD] 34)) from (Below.refl _ _).alloc (Nat.le_refl _) _)
  have HP := Lib.hid (RdP.box (T := 34) h1 h2 h3 h4 h5 h6)
  have HM := Lib.hid (hl0.up BW.out BW.out.size)
  clear h1 h2 h3 h4 h5 h6 hl0
  have HQ := Lib.hid (l07Ok_p m _ _ HP.out hdr)
  have HOK := Lib.hid hok
  clear hok
  go_enter Tryz.func10, Tryz.ntmps10
  go_wp2_with fail
  refine HQ.out.mono ?_
  rintro e w1 ⟨rfl, hb⟩
  rw [HOK.out]
  have HB := Lib.hid (BW.out.trans (hb.mono BW.out.size))
  have HP1 := Lib.hid (HP.out.below hb)
  clear hb HM HP HQ
  go_wp2_with fail
  refine (l07Live_any m _ _ HP1.out HOK.out).mono ?_
  rintro e w2 ⟨v2, rfl, ho, hb⟩
  have HO := Lib.hid (ho.lo HB.out.size)
  have HB2 := Lib.hid (HB.out.trans (hb.mono HB.out.size))
  clear ho hb
  go_wp2
  go_ret2
  exact ⟨_, rfl, HO.out, HB2.out⟩

set_option maxHeartbeats 4000000 in
set_option maxRecDepth 100000 in
theorem newT_any (n : Int) (h0 : 1 ≤ n) (h1 : n ≤ 24) (w : World) : Calls Tryz.prog 7 #[.int .i64 n] w (GivesMo w (newMc n)) := by
  have hbA := (Below.refl w.heap.size w).alloc (Nat.le_refl _) (.cells zeroM.toArray 34)
  have HBA := Lib.hid hbA
  have HR0 := Lib.hid (Bx.new w zeroM 34)
  have hzA : (w.alloc (.cells zeroM.toArray 34)).heap.size = w.heap.size + 1 := by simp
  clear hbA
  go_enter Tryz.func7, Tryz.ntmps7
  go_wp2_with fail
  refine (l00In_b n 1 24 _).mono ?_
  rintro e w1 ⟨rfl, hb⟩
  rw [show inB 1 n 24 = true from inB_iff.2 ⟨h0, h1⟩]
  have HB := Lib.hid (HBA.out.trans (hb.mono HBA.out.size))
  have HR1 := Lib.hid (HR0.out.below hb HR0.out.2.2)
  have hlt : w.heap.size < w1.heap.size := HR1.out.2.2
  clear hb HBA HR0 hzA
  go_wp2_with fail
  refine (l07New_any n h0 h1 _).mono ?_
  rintro e w2 ⟨S, g, rfl, hm, hb⟩
  have HB2 := Lib.hid (HB.out.trans (hb.mono HB.out.size))
  have hRY := HR1.out.below hb HR1.out.2.2
  obtain ⟨r0, r1, r2, r3, r4, r5, r6⟩ := CellsAt.seven hRY.1
  have rf := hRY.2.1
  have hsz := HB2.out.size
  obtain ⟨A1, c1, A2, c2, A3, c3, A4, c4, A5, c5, q1, q2, q3, q4, q5⟩ := hm.slices
  have HR := Lib.hid hm.rdo
  rw [q1, q2, q3, q4, q5] at HR
  rw [q1, q2, q3, q4, q5]
  generalize newMc n = m' at *
  clear hm hb q1 q2 q3 q4 q5 hRY HB
  go_wp2
  refine bodyPost_ret (v := .tuple #[.agg (mcV m'.wd m'.rk (.slice A1 m'.fr.length c1) (.slice A2 m'.bk.length c2) (.slice A3 m'.cs.length c3) (.slice A4 m'.ls.length c4) (.slice A5 m'.dr.length c5)), .int .i64 0]) (by simp [results, Tryz.results7, go_sem, r0, r1, r2, r3, r4, r5, r6, World.cell?_setCell_other]) rfl ?_
  refine ⟨_, rfl, HR.out.keep (by omega) (fun q hq hl => set7_hp _ _ _ _ _ _ _ _ _ q (by omega)) (by simp), ((((((HB2.out.setCell (Nat.le_refl _) _).setCell (Nat.le_refl _) _).setCell (Nat.le_refl _) _).setCell (Nat.le_refl _) _).setCell (Nat.le_refl _) _).setCell (Nat.le_refl _) _).setCell (Nat.le_refl _) _⟩

end Go.Proofs.YthhpjgdeehcgjaaGreat

/-
  A drawn machine: l07Draw.
-/
namespace Go.Proofs.YthhpjgdeehcgjaaGreat
set_option linter.unusedVariables false
set_option linter.unusedSimpArgs false
open Go.RowKit

theorem ok_new {n : Int} (h : 2 ≤ n) (h' : n ≤ 6) : okM (newMc n) = true := by
  obtain rfl | rfl | rfl | rfl | rfl : n = 2 ∨ n = 3 ∨ n = 4 ∨ n = 5 ∨ n = 6 := by omega
  all_goals kernel_rfl
theorem setL_wd (m : Mc) (n : Int × Int) (l : List Int) : (setL m n l).wd = m.wd := by unfold setL; split <;> rfl
theorem doTo_wd (m : Mc) (o : Opr) : (doTo m o).wd = m.wd := by
  unfold doTo fmTo mvTo carTo
  (repeat' split) <;> simp [setL_wd, setC, addLp]
/-- A machine and operations that were drawn. -/
def DrawnM (w : World) (gs : Nat) (K : Int) (e : Ending) (w' : World) : Prop :=
  ∃ (m : Mc) (S : Nat → Spot) (g : Nat) (v : Value) (l : List Opr), e = .returned (.tuple #[.agg (mcV m.wd m.rk (S 1).v (S 2).v (S 3).v (S 4).v (S 5).v), v]) ∧ okM m = true ∧ 2 ≤ m.wd ∧ MSt w' w.heap.size g m S ∧
    w'.ownsRow w.heap.size 41 8 v l.length (vS Opr.cells l) ∧ (∀ q, v.ownBlock = some q → ¬ blk S q) ∧ (∀ x ∈ l, okOpW m.wd x = true) ∧ Src w' gs K ∧ Only gs (gs + 1) w w'

/-- The running state of a draw. -/
structure LSt (w : World) (gs b6 : Nat) (K : Int) (m : Mc) (S : Nat → Spot) (v : Value) (l : List Opr) (wr : World) : Prop where
  ok : okM m = true ∧ 2 ≤ m.wd
  mst : MSt wr w.heap.size b6 m S
  own : wr.ownsRow w.heap.size 41 8 v l.length (vS Opr.cells l)
  apart : ∀ q, v.ownBlock = some q → ¬ blk S q
  ops : ∀ x ∈ l, okOpW m.wd x = true
  src : Src wr gs K
  only : Only gs (gs + 1) w wr
  res : Bx wr w.heap.size zeroM
  rne : ¬ blk S w.heap.size ∧ v.ownBlock ≠ some w.heap.size
theorem own_keep {w w' : World} {B e sz n : Nat} {v : Value} {xs : List Value} (h : w.ownsRow B e sz v n xs) (hk : ∀ g, v.ownBlock = some g → w'.heap[g]? = w.heap[g]?) : w'.ownsRow B e sz v n xs := by
  refine ⟨h.1, ?_⟩
  rcases h.2 with h2 | ⟨g, cap, cur, hv, hb, hh, h3⟩
  · exact .inl h2
  · exact .inr ⟨g, cap, cur, hv, hb, (hk g (by rw [hv]; rfl)).trans hh, h3⟩
theorem LSt.below {w : World} {gs b6 : Nat} {K : Int} {m : Mc} {S : Nat → Spot} {v : Value} {l : List Opr} {wr wy : World} (h : LSt w gs b6 K m S v l wr) (hb : Below wr.heap.size wr wy) : LSt w gs b6 K m S v l wy :=
  ⟨h.ok, h.mst.below hb, own_below h.own hb, h.apart, h.ops, h.src.below hb h.src.lt, h.only.trans (Only.of_below hb), h.res.below hb h.res.2.2, h.rne⟩
theorem LSt.turn {w : World} {gs b6 : Nat} {K K' : Int} {m : Mc} {S : Nat → Spot} {v : Value} {l : List Opr} {wr wy : World} (h : LSt w gs b6 K m S v l wr) (hg : gs < w.heap.size) (hs : Src wy gs K') (ho : Only gs (gs + 1) wr wy) : LSt w gs b6 K' m S v l wy :=
  ⟨h.ok, h.mst.only ho hg, own_keep h.own (fun q hq => ho.block q (World.ownsRow.lt h.own q hq).2 (by have := (World.ownsRow.lt h.own q hq).1; omega)), h.apart, h.ops, hs, h.only.trans ho, h.res.only ho (by omega), h.rne⟩
theorem LSt.next {w : World} {gs b6 g B' : Nat} {K : Int} {m m' : Mc} {S S7 : Nat → Spot} {v : Value} {l : List Opr} {wr : World} (h : LSt w gs b6 K m S v l wr) (hM : MSt wr B' g m' S7) (ok' : okM m' = true ∧ 2 ≤ m'.wd) (hwd : m'.wd = m.wd) (hb : b6 < B') (hv : ∀ q, v.ownBlock = some q → q < B') (hw : w.heap.size < B') (hg : gs < w.heap.size) :
    ∃ S', LSt w gs b6 K m' S' v l (((((((wr.setCell ⟨b6, 0, none⟩ (.int .i64 m'.wd)).setCell ⟨b6, 1, none⟩ (.int .i64 m'.rk)).setCell ⟨b6, 2, none⟩ (S7 1).v).setCell ⟨b6, 3, none⟩ (S7 2).v).setCell ⟨b6, 4, none⟩ (S7 3).v).setCell ⟨b6, 5, none⟩ (S7 4).v).setCell ⟨b6, 6, none⟩ (S7 5).v) := by
  have hbx := h.mst.sp.own 0
  rw [h.mst.box] at hbx
  have hbx : wr.ownsRow w.heap.size 34 7 (.slice (some ⟨b6, 0, none⟩) 1 1) 1 [.int .i64 m.wd, .int .i64 m.rk, (S 1).v, (S 2).v, (S 3).v, (S 4).v, (S 5).v] := hbx
  obtain ⟨S', h1, h2, h3⟩ := hM.over hbx (Nat.le_of_lt hw) hb
  have hb0 : w.heap.size ≤ b6 := h.mst.size.2
  have hbn : b6 ≠ w.heap.size := fun e => h.rne.1 ⟨0, by rw [h.mst.gbox, e]⟩
  have hblk : ∀ q, blk S' q → q = b6 ∨ B' ≤ q := fun q ⟨j, hj⟩ => by
    by_cases e : j = 0
    · subst e
      rw [h3] at hj
      injection hj with hj
      exact .inl hj.symm
    · rw [h2 j e] at hj
      exact .inr (hM.sp.lt hj).1
  have hvb : v.ownBlock ≠ some b6 := fun e => h.apart _ e ⟨0, h.mst.gbox⟩
  refine ⟨S', ok', h1, own_far7 h.own hvb _ _ _ _ _ _ _, fun q hq hs => ?_, fun x hx => by rw [hwd]; exact h.ops x hx, ?_, ?_, ?_, fun hs => ?_, h.rne.2⟩
  · rcases hblk q hs with e | e
    · exact hvb (by rw [← e]; exact hq)
    · have := hv q hq; omega
  · have hp : gs < b6 := by omega
    exact ((((((h.src.setNew hp _ _).setNew hp _ _).setNew hp _ _).setNew hp _ _).setNew hp _ _).setNew hp _ _).setNew hp _ _
  · exact ((((((h.only.setNew hb0 _ _).setNew hb0 _ _).setNew hb0 _ _).setNew hb0 _ _).setNew hb0 _ _).setNew hb0 _ _).setNew hb0 _ _
  · have hr := fun e => hbn (Eq.symm e)
    exact ((((((h.res.far hr _ _).far hr _ _).far hr _ _).far hr _ _).far hr _ _).far hr _ _).far hr _ _
  · rcases hblk _ hs with e | e
    · exact hbn e.symm
    · omega
theorem LSt.append {w wr wx : World} {gs b6 : Nat} {K : Int} {m : Mc} {S : Nat → Spot} {v v' : Value} {l : List Opr} {x : Opr} {o : Obj} (h : LSt w gs b6 K m S v l wr) (hg : gs < w.heap.size) (hx : okOpW m.wd x = true)
    (hown : wx.ownsRow w.heap.size 41 8 v' (l.length + 1) (vS Opr.cells l ++ x.cells)) (hgr : (wr.alloc o).grownBy wx v.ownBlock) (hat : v'.ownBlock = v.ownBlock ∨ v'.ownBlock = some (wr.heap.size + 1)) : LSt w gs b6 K m S v' (l ++ [x]) wx := by
  rw [← World.size_alloc wr o] at hat
  have hA := h.below ((Below.refl _ _).alloc (Nat.le_refl _) o)
  have hs0 : w.heap.size ≤ (wr.alloc o).heap.size := hA.only.size
  have hb : Below w.heap.size (wr.alloc o) wx := Below.grown (Below.refl _ _) hgr hs0 (fun k hk => (World.ownsRow.lt h.own k hk).1)
  refine ⟨h.ok, hA.mst.keep (fun j q hq => hgr.block q (hA.mst.sp.lt hq).2 (fun e => h.apart q e.symm ⟨j, hq⟩)), ?_, fun q hq => ?_, fun y hy => ?_, hA.src.below hb hg, ?_, ?_, h.rne.1, ?_⟩
  · rw [List.length_append, vS_snoc]; exact hown
  · rcases hat with e | e
    · exact h.apart q (e ▸ hq)
    · rw [e] at hq
      injection hq with hq
      rintro ⟨j, hj⟩
      have := (hA.mst.sp.lt hj).2
      omega
  · rcases List.mem_append.1 hy with hy | hy
    · exact h.ops y hy
    · rw [List.mem_singleton] at hy
      rw [hy]; exact hx
  · exact ⟨hb.os.trans hA.only.os, hb.tape.trans hA.only.tape, hb.output.trans hA.only.output, Nat.le_trans hA.only.size hb.size, fun k hk hk2 => (hb.block k hk).trans (hA.only.block k hk hk2)⟩
  · exact hA.res.keep (hgr.block _ hA.res.2.2 (fun e => h.rne.2 e.symm)) hgr.size
  · rcases hat with e | e
    · rw [e]; exact h.rne.2
    · rw [e]
      intro e2
      injection e2 with e2
      have := hA.res.2.2
      omega
set_option maxHeartbeats 40000000 in
set_option maxRecDepth 100000 in
theorem l07Draw_any {w : World} {gs : Nat} {K most : Int} (hS : Src w gs K) (hm0 : 0 ≤ most) (hm1 : most ≤ 100) (hK : K + 4 + 20 * most ≤ 1000000000) :
    Calls Tryz.prog 16 #[.pointer (some ⟨gs, 0, none⟩), .int .i64 most] w (DrawnM w gs (K + 4 + 20 * most)) := by
  obtain ⟨io, hio, ho0, ho1, ho2⟩ := info_parts info_op
  have hgs := hS.lt
  have HS := Lib.hid hS
  have HR := Lib.hid (Bx.new w zeroM 34)
  clear hS
  go_enter Tryz.func16, Tryz.ntmps16
  go_wp2_with fail
  refine (pick_any _ gs 5 K (HS.out.alloc _) (by omega)).mono ?_
  rintro e w1 ⟨x, rfl, hx, hs1, ho1'⟩
  have hx0 : 0 ≤ x := hx.1
  have hx5 : x < 5 := hx.2.1 (by omega)
  have S1 := Lib.hid hs1
  have O1 := Lib.hid (((Only.refl gs (gs + 1) w).alloc (.cells zeroM.toArray 34)).trans ho1')
  have R1 := Lib.hid (HR.out.only ho1' (by omega))
  have hz1 : w.heap.size < w1.heap.size := by have := ho1'.size; rw [World.size_alloc] at this; exact this
  clear hx hs1 ho1'
  go_wp2_with fail
  refine (l07New_any (2 + x) (by omega) (by omega) w1).mono ?_
  rintro e w2 ⟨S0, g0, rfl, hM0, hB0⟩
  have hz2 : w1.heap.size ≤ w2.heap.size := hB0.size
  obtain ⟨S2, hM2, hS2, hb2⟩ := hM0.rebox hz2
  obtain ⟨A1, c1, A2, c2, A3, c3, A4, c4, A5, c5, q1, q2, q3, q4, q5⟩ := hM0.slices
  rw [q1, q2, q3, q4, q5] at hM2
  rw [q1, q2, q3, q4, q5]
  have M2 := Lib.hid hM2
  have B0 := Lib.hid hB0
  have HS2 := Lib.hid hS2
  clear hM2 hB0 hM0 hS2 q1 q2 q3 q4 q5 hb2
  go_wp2_with fail
  have hok : okM (newMc (2 + x)) = true ∧ 2 ≤ (newMc (2 + x)).wd := ⟨ok_new (by omega) (by omega), show 2 ≤ 2 + x by omega⟩
  generalize newMc (2 + x) = m at *
  generalize hwA : w2.alloc (.cells (mcV m.wd m.rk (.slice A1 m.fr.length c1) (.slice A2 m.bk.length c2) (.slice A3 m.cs.length c3) (.slice A4 m.ls.length c4) (.slice A5 m.dr.length c5)) 34) = wA at *
  have hzA : wA.heap.size = w2.heap.size + 1 := by rw [← hwA, World.size_alloc]
  have hBA : Below w1.heap.size w1 wA := by rw [← hwA]; exact B0.out.alloc hz2 _
  have HL0 : LSt w gs w2.heap.size (K + 2) m S2 (.slice (some ⟨wA.heap.size, 0, none⟩) 0 0) [] (wA.alloc (.cells #[] 41)) := by
    refine ⟨hok, (M2.out.base (by omega)).below ((Below.refl _ _).alloc (Nat.le_refl _) _), ?_, fun q hq => ?_, (fun x hx => by cases hx), (S1.out.below hBA (by omega)).alloc _, (O1.out.trans (Only.of_below hBA)).alloc _, (R1.out.below hBA hz1).alloc _, fun ⟨j, hj⟩ => ?_, fun e => ?_⟩
    · exact World.ownsRow_lit (base := w.heap.size) (e := 41) (size := 8) wA #[] 0 (by omega) (by unfold maxLen; omega) rfl
    · have e : wA.heap.size = q := by injection hq
      rintro ⟨j, hj⟩
      have := (M2.out.sp.lt hj).2
      omega
    · have := (M2.out.sp.lt hj).1
      omega
    · have e : wA.heap.size = w.heap.size := by injection e
      omega
  have hzb : w.heap.size < w2.heap.size := by omega
  rw [hzA] at HL0
  generalize wA.alloc (.cells #[] 41) = W3 at *
  have HL := Lib.hid HL0
  clear HL0 hwA hzA hBA M2 B0 HS2 S1 O1 R1 hok
  refine (pick_any W3 gs (most + 1) (K + 2) HL.out.src (by omega)).mono ?_
  rintro e W4 ⟨k0, rfl, hk, hs4, ho4⟩
  have hk0 : 0 ≤ k0 := hk.1
  have hk1 : k0 ≤ most := by
    rcases (by omega : 1 < most + 1 ∨ most + 1 ≤ 1) with h1 | h1
    · have := hk.2.1 h1; omega
    · have := hk.2.2 h1; omega
  obtain ⟨n0, rfl⟩ := Int.eq_ofNat_of_zero_le hk0
  have HL4 := Lib.hid (HL.out.turn hgs hs4 ho4)
  clear hk hs4 ho4 HL
  go_wp2_with fail
  go_loopw [7, 8] (fun v7 i wr => ∃ (n : Nat) (m : Mc) (Sk : Nat → Spot) (l : List Opr) (wq : World), wq = wr ∧ n ≤ n0 ∧ l.length + n ≤ n0 ∧ i = .int .i64 n ∧ Hid (LSt w gs w2.heap.size (K + 4 + 20 * ((n0 : Int) - n)) m Sk v7 l wq)) (fun v7 i _ => (intOf i).toNat)
  case atStart =>
    have h9 := HL4.out
    rw [show K + 2 + 2 = K + 4 + 20 * ((n0 : Int) - n0) by omega] at h9
    exact ⟨n0, m, S2, [], _, rfl, Nat.le_refl _, Nat.le_of_eq (Nat.zero_add _), rfl, h9⟩
  case round =>
    clear HL4
    obtain ⟨n, m, Sk, l, wq, hwq, hn, hln, rfl, HLr⟩ := hrel
    subst hwq
    by_cases hz : n = 0
    · subst hz
      obtain ⟨x0, x1, x2, x3, x4, x5, x6⟩ := HLr.out.mst.cells.seven
      obtain ⟨y0, y1, y2, y3, y4, y5, y6⟩ := CellsAt.seven HLr.out.res.1
      have yf := HLr.out.res.2.1
      obtain ⟨A1, c1, A2, c2, A3, c3, A4, c4, A5, c5, g1, g2, g3, g4, g5⟩ := HLr.out.mst.slices
      have HG := Lib.hid (And.intro g1 (And.intro g2 (And.intro g3 (And.intro g4 g5))))
      rw [g1] at x2
      rw [g2] at x3
      rw [g3] at x4
      rw [g4] at x5
      rw [g5] at x6
      clear g1 g2 g3 g4 g5
      have hgr : w2.heap.size ≠ w.heap.size := by omega
      go_wp2
      refine bodyPost_ret (v := .tuple #[.agg (mcV m.wd m.rk (.slice A1 m.fr.length c1) (.slice A2 m.bk.length c2) (.slice A3 m.cs.length c3) (.slice A4 m.ls.length c4) (.slice A5 m.dr.length c5)), u7]) (by simp [results, Tryz.results16, go_sem, y0, y1, y2, y3, y4, y5, y6, World.cell?_setCell_other]) rfl ?_
      obtain ⟨g1, g2, g3, g4, g5⟩ := HG.out
      have h := HLr.out
      refine ⟨m, Sk, w2.heap.size, u7, l, by rw [g1, g2, g3, g4, g5], h.ok.1, h.ok.2, h.mst.keep (fun j q hq => set7_heap _ _ _ _ _ _ _ _ _ _ (fun e => h.rne.1 ⟨j, by rw [hq, e]⟩)), own_far7 h.own h.rne.2 _ _ _ _ _ _ _, h.apart, h.ops, ?_, ?_⟩
      · exact (((((((h.src.setNew hgs _ _).setNew hgs _ _).setNew hgs _ _).setNew hgs _ _).setNew hgs _ _).setNew hgs _ _).setNew hgs _ _).more (by omega) hK
      · exact ((((((h.only.setNew (Nat.le_refl _) _ _).setNew (Nat.le_refl _) _ _).setNew (Nat.le_refl _) _ _).setNew (Nat.le_refl _) _ _).setNew (Nat.le_refl _) _ _).setNew (Nat.le_refl _) _ _).setNew (Nat.le_refl _) _ _
    · have hpos : 0 < n := by omega
      have hlt0 : (0 : Int) < (n : Int) := by omega
      go_wp2_with fail
      refine (l07DrawOp_any HLr.out.src HLr.out.mst hgs (by omega) HLr.out.ok.1).mono ?_
      rintro e W5 ⟨x, rfl, hxo, hs5, ho5⟩
      have HL5 := Lib.hid (HLr.out.turn hgs hs5 ho5)
      have HXO := Lib.hid hxo
      have hmb5 : w2.heap.size < W5.heap.size := HL5.out.mst.size.1
      have HV5 : Hid (∀ q, u7.ownBlock = some q → q < W5.heap.size) := fun q hq => (World.ownsRow.lt HL5.out.own q hq).2
      clear hs5 ho5 hxo HLr
      go_wp2_with fail
      obtain ⟨W6, hW6⟩ : ∃ W6, W6 = W5.alloc (.cells x.cells.toArray 41) := ⟨_, rfl⟩
      have hb56 : Below W5.heap.size W5 W6 := by rw [hW6]; exact (Below.refl _ _).alloc (Nat.le_refl _) _
      have hox : Bx W6 W5.heap.size x.cells := by rw [hW6]; exact Bx.new W5 x.cells 41
      have hL6 := HL5.out.below hb56
      have hz6 : W5.heap.size < W6.heap.size := hox.2.2
      rw [← hW6]
      refine (l07Own_any m w2.heap.size W6 hL6.mst.rd hL6.ok.1).mono ?_
      rintro e W7 ⟨S7, g7, rfl, hM7, hB7⟩
      have hz7 : W6.heap.size ≤ W7.heap.size := hB7.size
      obtain ⟨S8, hM8, hS8, hb8⟩ := hM7.rebox hz7
      obtain ⟨A1, c1, A2, c2, A3, c3, A4, c4, A5, c5, q1, q2, q3, q4, q5⟩ := hM7.slices
      rw [q1, q2, q3, q4, q5] at hM8
      rw [q1, q2, q3, q4, q5]
      have M8 := Lib.hid hM8
      have HL6 := Lib.hid hL6
      have HO6 := Lib.hid hox
      have HB7 := Lib.hid hB7
      have HOK6 := Lib.hid hL6.ok
      clear hW6 hb56 hox hL6 hM7 hB7 hM8 hS8 hb8 q1 q2 q3 q4 q5 HL5
      go_wp2_with fail
      have hA8 : Below W7.heap.size W7 (W7.alloc (.cells (mcV m.wd m.rk (.slice A1 m.fr.length c1) (.slice A2 m.bk.length c2) (.slice A3 m.cs.length c3) (.slice A4 m.ls.length c4) (.slice A5 m.dr.length c5)) 34)) := (Below.refl _ _).alloc (Nat.le_refl _) _
      have hB8 : Below W6.heap.size W6 _ := HB7.out.trans (hA8.mono hz7)
      have hO8 := HO6.out.below hB8 hz6
      generalize W7.alloc (.cells (mcV m.wd m.rk (.slice A1 m.fr.length c1) (.slice A2 m.bk.length c2) (.slice A3 m.cs.length c3) (.slice A4 m.ls.length c4) (.slice A5 m.dr.length c5)) 34) = W8 at *
      have hz8 : W7.heap.size ≤ W8.heap.size := hA8.size
      refine (l07Do_any M8.out (by omega) x W5.heap.size 0 hO8.1 (fun ⟨j, hj⟩ => by have := (M8.out.sp.lt hj).1; omega) HOK6.out.1 HXO.out).mono ?_
      rintro e W9 ⟨rfl, S9, hmv, hM9⟩
      have hB9 : Below W6.heap.size W6 W9 := hB8.trans (hmv.below M8.out.sp (by omega))
      have HL9 := Lib.hid (HL6.out.below hB9)
      have HO9 := Lib.hid (HO6.out.below hB9 hz6)
      have HM9 := Lib.hid hM9
      have hz9 : W6.heap.size ≤ W9.heap.size := hB9.size
      clear hB8 hA8 hO8 hmv hM9 hB9 HB7 HL6 HO6 M8
      by_cases hcode : doCode m x = 0
      · have hok9 := ok_do HOK6.out.1 HXO.out hcode
        have M9 := Lib.hid (HM9.out hcode)
        have HOK9 := Lib.hid hok9
        rw [hcode]
        clear hok9 HM9
        have HC := Lib.hid hcode
        clear hcode
        go_wp2_with fail
        refine (l07Live_any (doTo m x) W7.heap.size W9 M9.out.rd HOK9.out).mono ?_
        rintro e W10 ⟨v10, rfl, hown10, hb10⟩
        have HL10 := Lib.hid (HL9.out.below (hb10.mono (Nat.le_refl _)))
        have HO10 := Lib.hid (HO9.out.below hb10 HO9.out.2.2)
        have M10 := Lib.hid (M9.out.below hb10)
        obtain ⟨A10, c10, rfl, hlvl, -⟩ := hown10.cells
        have hz10 : W9.heap.size ≤ W10.heap.size := hb10.size
        clear hown10 hb10 HL9 HO9 M9
        by_cases h9 : (liveL (doTo m x)).length ≤ 9
        · have h9i : ((liveL (doTo m x)).length : Int) ≤ 9 := by omega
          obtain ⟨x0, x1, x2, x3, x4, x5, x6⟩ := M10.out.cells.seven
          obtain ⟨y0, y1, y2, y3, y4, y5, y6⟩ := HL10.out.mst.cells.seven
          have yf := fun i => HL10.out.mst.frozen i
          obtain ⟨A1', c1', A2', c2', A3', c3', A4', c4', A5', c5', g1, g2, g3, g4, g5⟩ := M10.out.slices
          have HG := Lib.hid (And.intro g1 (And.intro g2 (And.intro g3 (And.intro g4 g5))))
          rw [g1] at x2
          rw [g2] at x3
          rw [g3] at x4
          rw [g4] at x5
          rw [g5] at x6
          clear g1 g2 g3 g4 g5
          have hb5 : w2.heap.size < W5.heap.size := hmb5
          have hne2 : w2.heap.size ≠ W7.heap.size := by omega
          have hne5 : w2.heap.size ≠ W5.heap.size := by omega
          obtain ⟨p0, p1, p2, p3, p4, p5, p6, p7⟩ := HO10.out.eight
          have hfar5 := far_cell hne5
          have hfar7 := far_cell hne2
          clear p0 p1 p2 p3 p4 p5 p6 p7 hfar5
          obtain ⟨S11, hL11⟩ := HL10.out.next M10.out ⟨HOK9.out, by rw [doTo_wd]; exact HOK6.out.2⟩ (doTo_wd m x) (by omega) (fun q hq => by have := HV5.out q hq; omega) (by omega) hgs
          obtain ⟨g1, g2, g3, g4, g5⟩ := HG.out
          rw [g1, g2, g3, g4, g5] at hL11
          have HL11 := Lib.hid hL11
          clear hL11 g1 g2 g3 g4 g5
          have HO11 : Hid (Bx (((((((W10.setCell ⟨w2.heap.size, 0, none⟩ (.int .i64 (doTo m x).wd)).setCell ⟨w2.heap.size, 1, none⟩ (.int .i64 (doTo m x).rk)).setCell ⟨w2.heap.size, 2, none⟩ (.slice A1' (doTo m x).fr.length c1')).setCell ⟨w2.heap.size, 3, none⟩ (.slice A2' (doTo m x).bk.length c2')).setCell ⟨w2.heap.size, 4, none⟩ (.slice A3' (doTo m x).cs.length c3')).setCell ⟨w2.heap.size, 5, none⟩ (.slice A4' (doTo m x).ls.length c4')).setCell ⟨w2.heap.size, 6, none⟩ (.slice A5' (doTo m x).dr.length c5')) W5.heap.size x.cells) := ((((((HO10.out.far (Ne.symm hne5) _ _).far (Ne.symm hne5) _ _).far (Ne.symm hne5) _ _).far (Ne.symm hne5) _ _).far (Ne.symm hne5) _ _).far (Ne.symm hne5) _ _).far (Ne.symm hne5) _ _
          go_upto_region 10 with fail
          generalize (((((((W10.setCell ⟨w2.heap.size, 0, none⟩ (.int .i64 (doTo m x).wd)).setCell ⟨w2.heap.size, 1, none⟩ (.int .i64 (doTo m x).rk)).setCell ⟨w2.heap.size, 2, none⟩ (.slice A1' (doTo m x).fr.length c1')).setCell ⟨w2.heap.size, 3, none⟩ (.slice A2' (doTo m x).bk.length c2')).setCell ⟨w2.heap.size, 4, none⟩ (.slice A3' (doTo m x).cs.length c3')).setCell ⟨w2.heap.size, 5, none⟩ (.slice A4' (doTo m x).ls.length c4')).setCell ⟨w2.heap.size, 6, none⟩ (.slice A5' (doTo m x).dr.length c5')) = W11 at *
          have hown11 := HL11.out.own
          obtain ⟨p0, p1, p2, p3, p4, p5, p6, p7⟩ := HO11.out.eight
          have hl100 : l.length ≤ 100 := by omega
          have hz11 := HL11.out.mst.size.1
          have hz11' := HL11.out.res.2.2
          clear hfar7 x0 x1 x2 x3 x4 x5 x6 y0 y1 y2 y3 y4 y5 y6 yf
          go_wp2_with (at_builtin; refine wpList_append_own_at _ rfl _ _ 23 rfl w.heap.size 41 io _ 8 64 Tryz.underlying23 hio ho0 ho1 ho2 rfl (by decide) _ _ _ rfl (hown11.alloc _) ⟨_, 0, none⟩ 1 1 x.cells rfl rfl (new_cells' _ _ (by simp)) (by intro u hu; simp at hu; rcases hu with rfl | rfl | rfl | rfl | rfl | rfl | rfl | rfl <;> rfl) (by unfold maxLen; omega) (by omega) (by (try simp); omega) ?_)
          intro v' wa hown hgrow _ hat
          have hL12 := Lib.hid (HL11.out.append (o := .cells x.cells.toArray 41) hgs (by rw [doTo_wd]; exact HXO.out) hown hgrow hat)
          clear hown hgrow hat hown11 p0 p1 p2 p3 p4 p5 p6 p7 HL11 HO11
          go_wp2_with fail
          refine ⟨⟨n - 1, doTo m x, S11, l ++ [x], _, rfl, by omega, by simp; omega, by go_num, ?_⟩, by simp [intOf]; omega⟩
          rw [show K + 4 + 20 * ((n0 : Int) - ((n - 1 : Nat) : Int)) = K + 4 + 20 * ((n0 : Int) - n) + 20 by omega]
          exact hL12.out
        · have h9i : ¬ ((liveL (doTo m x)).length : Int) ≤ 9 := by omega
          go_wp2
          have h9 := HL10.out
          refine ⟨⟨n - 1, m, Sk, l, _, rfl, by omega, by omega, by go_num, ?_⟩, by simp [intOf]; omega⟩
          rw [show K + 4 + 20 * ((n0 : Int) - ((n - 1 : Nat) : Int)) = K + 4 + 20 * ((n0 : Int) - n) + 20 by omega]
          exact h9
      · go_wp2
        have h9 := HL9.out
        refine ⟨⟨n - 1, m, Sk, l, _, rfl, by omega, by omega, by go_num, ?_⟩, by simp [intOf]; omega⟩
        rw [show K + 4 + 20 * ((n0 : Int) - ((n - 1 : Nat) : Int)) = K + 4 + 20 * ((n0 : Int) - n) + 20 by omega]
        exact h9

end Go.Proofs.YthhpjgdeehcgjaaGreat

/-
  A slice of bytes that came in; the bound on its length.
-/
namespace Go.Proofs.YthhpjgdeehcgjaaGreat
set_option linter.unusedVariables false
set_option linter.unusedSimpArgs false
open Go.ChangeShapes Go.WideShapes Go.ChangeAt Go.RowKit Go.Deep

theorem byte_of_wf {x : Int} (h : (Lit.int .u8 x).wf = true) : 0 ≤ x ∧ x ≤ 255 := by
  simp [Lit.wf, IntKind.min, IntKind.max, IntKind.signed, IntKind.bits] at h
  exact ⟨by omega, by omega⟩
section
variable {H : Type} {enc : TypeId × Value → H} {P : Program} {W : World} {base : Nat} {d : DataW H} {p : List MemPlace} {v : Value}
theorem open_rdB {t e : TypeId} (ht : P.underlying t = some (.slice e)) (he : P.underlying e = some (.int .u8)) (hc : P.cellsOf e = 1) (ho : Value.okWide P W .any base t v)
    (h : DataW.Trod enc P W 0 (fun _ => true) true t v d p) : RdB W W.heap.size v := by
  obtain ⟨A, n, c, rfl⟩ := okWide_slice ht ho
  obtain ⟨fuel, hf⟩ := h
  rcases open_ints ht he hc hf with ⟨hcs, _⟩ | ⟨a, l', c', zs, hcs, _, hl, hm, hz, _, hcell, hwz⟩
  · simp [Value.cells] at hcs
    obtain ⟨rfl, rfl, rfl⟩ := hcs
    exact ⟨none, 0, 0, rfl, by omega, fun k hk => absurd hk (by omega)⟩
  · simp [Value.cells] at hcs
    obtain ⟨rfl, rfl, rfl⟩ := hcs
    simp only [if_true] at hz
    refine ⟨some a, n, c, rfl, by unfold maxLen at hm; omega, fun k hk => ?_⟩
    obtain ⟨h1, h2, h3⟩ := addr_of_cell (hcell k (by omega)) ⟨_, hcell 0 (by omega)⟩
    have hb : 0 ≤ zs.getD k 0 ∧ zs.getD k 0 ≤ 255 := by
      rw [List.getD_eq_getElem?_getD]
      cases hx : zs[k]? with
      | none => simp
      | some x => exact byte_of_wf (hwz x (List.mem_of_getElem? hx))
    exact ⟨a.block, a.off, zs.getD k 0, by rw [← h1], h2, hb.1, hb.2, h3⟩
end

end Go.Proofs.YthhpjgdeehcgjaaGreat

/-
  The drawn operations (E8Ops), and a part of a row that is read.
-/
namespace Go.Proofs.YthhpjgdeehcgjaaGreat
set_option linter.unusedVariables false
set_option linter.unusedSimpArgs false
open Go.RowKit

theorem add_at (b off n : Nat) : Addr.add ⟨b, off, none⟩ n = ⟨b, off + n, none⟩ := by
  unfold Addr.add
  split
  · rename_i h; rw [h]; rfl
  · rfl
/-- A part of a slice that is read: at the end of the capacity it points to the row's start. -/
theorem RdS.cut {α : Type} {cs : α → List Value} {sz : Nat} {w : World} {B n c : Nat} {A : Option Addr} {l : List α} (h : RdS cs sz w B (.slice A n c) l) {lo hi : Nat} (h1 : lo ≤ hi) (h2 : hi ≤ n) (hc : n ≤ c) {ad : Option Addr} (hA : ad = if c = lo then A else A.map (fun a => a.add (lo * sz))) :
    RdS cs sz w B (.slice ad (hi - lo) (c - lo)) ((l.drop lo).take (hi - lo)) := by
  obtain ⟨A', n', c', e, g1, g2, g3⟩ := h
  injection e with e1 e2 e3
  subst e1 e2 e3
  refine ⟨ad, _, _, rfl, by omega, by unfold Hid; rw [List.length_take, List.length_drop]; have := g2.out; omega, fun k hk => ?_⟩
  obtain ⟨b, off, x, q1, q2, q3, q4⟩ := g3 (lo + k) (by omega)
  refine ⟨b, off + lo * sz, x, by rw [hA, if_neg (by omega), q1]; exact congrArg some (add_at _ _ _), q2, by rw [List.getElem?_take_of_lt hk, List.getElem?_drop]; exact q3, ?_⟩
  rw [show off + lo * sz + k * sz = off + (lo + k) * sz by rw [Nat.add_mul]; omega]
  exact q4
theorem RdI.cut {w : World} {B n c : Nat} {A : Option Addr} {l : List Int} (h : RdI w B (.slice A n c) l) {lo hi : Nat} (h1 : lo ≤ hi) (h2 : hi ≤ n) (hc : n ≤ c) {ad : Option Addr} (hA : ad = if c = lo then A else A.map (fun a => a.add (lo * 1))) :
    RdI w B (.slice ad (hi - lo) (c - lo)) ((l.drop lo).take (hi - lo)) := by
  obtain ⟨A', n', c', e, g1, g2, g3⟩ := h
  injection e with e1 e2 e3
  subst e1 e2 e3
  refine ⟨ad, _, _, rfl, by omega, by unfold Hid; rw [List.length_take, List.length_drop]; have := g2.out; omega, fun k hk => ?_⟩
  obtain ⟨b, off, x, q1, q2, q3, q4⟩ := g3 (lo + k) (by omega)
  refine ⟨b, off + lo, x, by rw [hA, if_neg (by omega), q1]; exact congrArg some ((add_at _ _ _).trans (by rw [Nat.mul_one])), q2, by rw [List.getElem?_take_of_lt hk, List.getElem?_drop]; exact q3, ?_⟩
  rw [Nat.add_assoc]
  exact q4
theorem Bx.set7 {w : World} {g : Nat} {z0 z1 z2 z3 z4 z5 z6 : Value} (h : Bx w g [z0, z1, z2, z3, z4, z5, z6]) (u0 u1 u2 u3 u4 u5 u6 : Value) : Bx (((((((w.setCell ⟨g, 0, none⟩ u0).setCell ⟨g, 1, none⟩ u1).setCell ⟨g, 2, none⟩ u2).setCell ⟨g, 3, none⟩ u3).setCell ⟨g, 4, none⟩ u4).setCell ⟨g, 5, none⟩ u5).setCell ⟨g, 6, none⟩ u6) g [u0, u1, u2, u3, u4, u5, u6] :=
  ((((((h.set (i := 0) (by simp) u0).set (i := 1) (by simp) u1).set (i := 2) (by simp) u2).set (i := 3) (by simp) u3).set (i := 4) (by simp) u4).set (i := 5) (by simp) u5).set (i := 6) (by simp) u6
/-- Operations that were drawn. -/
def DrawnO (w : World) (e : Ending) (w' : World) : Prop := ∃ (wd : Int) (v : Value) (l : List Opr), e = .returned (.tuple #[.int .i64 wd, v]) ∧ RdO w' w'.heap.size v l ∧ Below w.heap.size w w'
set_option maxHeartbeats 4000000 in
set_option maxRecDepth 100000 in
theorem e8Ops_any (w : World) (v0 : Value) (h : RdB w w.heap.size v0) : Calls Tryz.prog 4 #[v0] w (DrawnO w) := by
  have HB := Lib.hid h
  clear h
  go_enter Tryz.func4, Tryz.ntmps4
  go_wp2_with fail
  refine (l00From_any _ v0 HB.out).mono ?_
  rintro e w1 ⟨rfl, hs1, hb1, hz1⟩
  have B1 := Lib.hid hb1
  have S1 := Lib.hid hs1
  clear hb1 hs1
  go_wp2_with fail
  refine (l07Draw_any (gs := w.heap.size) (K := 0) S1.out (by decide) (by decide) (by decide)).mono ?_
  rintro e w2 ⟨m, S, g, v, l, rfl, hok, hwd, hm, hown, hne, hops, hs, ho⟩
  obtain ⟨A1, c1, A2, c2, A3, c3, A4, c4, A5, c5, q1, q2, q3, q4, q5⟩ := hm.slices
  rw [q1, q2, q3, q4, q5]
  have hb2 := B1.out.trans (ho.below (Nat.le_refl _) (by omega))
  have hR := (RdS.of_own Opr.len (OwC.of_own hown))
  have hbA := (Below.refl w2.heap.size w2).alloc (Nat.le_refl _) (.cells #[.int .i64 m.wd, .int .i64 m.rk, .slice A1 m.fr.length c1, .slice A2 m.bk.length c2, .slice A3 m.cs.length c3, .slice A4 m.ls.length c4, .slice A5 m.dr.length c5] 34)
  have HR := Lib.hid ((hR.below hbA).more hbA.size)
  have HB2 := Lib.hid (hb2.trans (hbA.mono hb2.size))
  clear hok hwd hm hown hne hops hs ho q1 q2 q3 q4 q5 hb2 hR hbA B1 S1 HB
  go_wp2
  go_ret2
  exact ⟨_, _, _, rfl, HR.out, HB2.out⟩

end Go.Proofs.YthhpjgdeehcgjaaGreat
