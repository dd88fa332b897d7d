/-
  LoopState, Undone, IsSecure, of the program and of the reference.
-/
import Derived.Test.YtogaellhkjjeaaaMcRes2
import Derived.Test.YtogaellhkjjeaaaMcUndo2
namespace Go.Proofs.Ytogaellhkjjeaaa
set_option linter.unusedVariables false
set_option linter.unusedSimpArgs false
open Go.RowKit

/-- The code of a machine. -/
def okC (m : Mc) : Int := if okM m = true then 0 else 1
theorem okC_no {m : Mc} (h : okM m = false) : okC m = 1 := by simp [okC, h]
theorem okC_yes {m : Mc} (h : okM m = true) : okC m = 0 := by simp [okC, h]


/-- What LoopState answers. -/
def stV (m : Mc) (k : Int) : Int := if askC m k = 0 then stM m k else 0
def stR (m : Mc) (k : Int) (e : Ending) : Prop := e = .returned (.tuple #[.int .i64 (stV m k), .int .i64 (askC m k)])

set_option maxHeartbeats 4000000 in
set_option maxRecDepth 100000 in
theorem implUndone_any (v : Value) (m : Mc) (w : World) (hl : RdM w w.heap.size v m) (hf : FitM m) :
    Calls Try.prog 24 #[v] w (GivesC w 2 1 (okList (okC m) (undone m)).length (vI (okList (okC m) (undone m))) (okC m)) := by
  have hdr := hf.dr
  have hl0 := hl
  obtain ⟨f, b, cs, ls, d, rfl, h1, h2, h3, h4, h5, h6⟩ := hl
  obtain ⟨AF, cF, rfl⟩ := RdN.shape h1
  obtain ⟨AG, cG, rfl⟩ := RdN.shape h2
  obtain ⟨AC, cC, rfl⟩ := RdS.lens h3
  obtain ⟨AI, cI, rfl⟩ := RdN.shape h4
  obtain ⟨AD, cD, rfl⟩ := RdI.len h5
  have BW := Lib.hid (show Below w.heap.size w (w.alloc (.cells #[.int .i64 m.wd, .int .i64 m.rk, .slice AF m.fr.length cF, .slice AG m.bk.length cG, .slice AC m.cs.length cC, .slice AI m.ls.length cI, .slice AD m.dr.length cD] 29)) from (Below.refl _ _).alloc (Nat.le_refl _) _)
  have HP := Lib.hid (RdP.box (T := 29) h1 h2 h3 h4 h5 h6)
  have HM := Lib.hid (hl0.up BW.out BW.out.size)
  clear h1 h2 h3 h4 h5 h6 hl0
  have HQ := Lib.hid (validMachine_any _ m _ HM.out)
  cases hok : okM m
  · have HN := Lib.hid (fun w' hb => (show Below w.heap.size w w' → GivesC w 2 1 (okList (okC m) (undone m)).length (vI (okList (okC m) (undone m))) (okC m) (.returned (.tuple #[.slice none 0 0, .int .i64 1])) w' from fun hb => by rw [okC_no hok]; exact GivesC.nil (by decide) rfl hb) hb)
    have HK := Lib.hid hok
    clear hok
    go_enter Try.func24, Try.ntmps24
    go_wp2_with fail
    refine HQ.out.mono ?_
    rintro e w1 ⟨rfl, hb⟩
    rw [HK.out]
    have HB := Lib.hid (BW.out.trans (hb.mono BW.out.size))
    clear hb
    go_wp2
    go_ret2
    exact HN.out _ HB.out
  have HOK := Lib.hid hok
  have h300 := ls_len hok
  clear hok
  go_enter Try.func24, Try.ntmps24
  go_wp2_with fail
  refine HQ.out.mono ?_
  rintro e w1 ⟨rfl, hb⟩
  rw [HOK.out]
  have HB := Lib.hid (BW.out.trans (hb.mono BW.out.size))
  have HP1 := Lib.hid (HP.out.below hb)
  clear hb HM HP HQ
  go_wp2_with fail
  refine (isLive_any m _ _ HP1.out HOK.out).mono ?_
  rintro e w2 ⟨rfl, hr, hb⟩
  have HR := Lib.hid hr
  have HP2 := Lib.hid (HP1.out.below hb)
  have HB2 := Lib.hid (HB.out.trans (hb.mono HB.out.size))
  clear hr hb
  go_wp2_with fail
  refine (undone_any m _ _ (hasB (liveL m)) _ HP2.out HOK.out HR.out).mono ?_
  rintro e w3 ⟨go, rfl, hgo, hr, hb⟩
  have hl : (undL m (hasB (liveL m))).length = m.ls.length := undR_len _ _ _
  rw [← hl] at hr
  have HR3 := Lib.hid hr
  have HQ3 := Lib.hid (indicesOf_any go (undL m (hasB (liveL m))) _ hr (by omega))
  rw [hl] at HQ3
  have HB3 := Lib.hid (HB2.out.trans (hb.mono HB2.out.size))
  clear hr hb hl
  go_wp2_with fail
  refine HQ3.out.mono ?_
  rintro e w4 ⟨v4, rfl, ho, hb⟩
  have HO := Lib.hid (ho.lo HB3.out.size)
  have HB4 := Lib.hid (HB3.out.trans (hb.mono HB3.out.size))
  clear ho hb
  go_wp2
  go_ret2
  exact GivesC.yes (okC_yes HOK.out) rfl HO.out HB4.out

/-- Is a machine secure? -/
def secB (m : Mc) : Bool := okM m && decide ((undone m).length = 0)
set_option maxHeartbeats 4000000 in
set_option maxRecDepth 100000 in
theorem implSecure_any (v : Value) (m : Mc) (w : World) (hl : RdM w w.heap.size v m) (hf : FitM m) :
    Calls Try.prog 25 #[v] w fun e w' => e = .returned (.bool (secB m)) ∧ Below w.heap.size w w' := by
  have hdr := hf.dr
  have hl0 := hl
  obtain ⟨f, b, cs, ls, d, rfl, h1, h2, h3, h4, h5, h6⟩ := hl
  obtain ⟨AF, cF, rfl⟩ := RdN.shape h1
  obtain ⟨AG, cG, rfl⟩ := RdN.shape h2
  obtain ⟨AC, cC, rfl⟩ := RdS.lens h3
  obtain ⟨AI, cI, rfl⟩ := RdN.shape h4
  obtain ⟨AD, cD, rfl⟩ := RdI.len h5
  have BW := Lib.hid (show Below w.heap.size w (w.alloc (.cells #[.int .i64 m.wd, .int .i64 m.rk, .slice AF m.fr.length cF, .slice AG m.bk.length cG, .slice AC m.cs.length cC, .slice AI m.ls.length cI, .slice AD m.dr.length cD] 29)) from (Below.refl _ _).alloc (Nat.le_refl _) _)
  have HP := Lib.hid (RdP.box (T := 29) h1 h2 h3 h4 h5 h6)
  have HM := Lib.hid (hl0.up BW.out BW.out.size)
  clear h1 h2 h3 h4 h5 h6 hl0
  have HQ := Lib.hid (implUndone_any _ m _ HM.out hf)
  cases hok : okM m
  · have HS := Lib.hid (show secB m = false by simp [secB, hok])
    have HE := Lib.hid (okC_no hok)
    rw [HE.out] at HQ
    clear hok
    go_enter Try.func25, Try.ntmps25
    go_wp2_with fail
    refine HQ.out.mono ?_
    rintro e w1 ⟨v1, rfl, ho, hb⟩
    have HB := Lib.hid (BW.out.trans (hb.mono BW.out.size))
    clear hb ho
    go_wp2
    go_ret
    exact ⟨ret_bool HS.out.symm, HB.out⟩
  · have HS := Lib.hid (show secB m = decide ((undone m).length = 0) by simp [secB, hok])
    have HE := Lib.hid (okC_yes hok)
    rw [HE.out, okList_yes rfl] at HQ
    clear hok
    generalize undone m = U at *
    go_enter Try.func25, Try.ntmps25
    go_wp2_with fail
    refine HQ.out.mono ?_
    rintro e w1 ⟨v1, rfl, ho, hb⟩
    obtain ⟨A3, c3, rfl, -⟩ := ho.cells
    have HB := Lib.hid (BW.out.trans (hb.mono BW.out.size))
    clear hb ho
    generalize U.length = N at *
    go_wp2
    go_ret
    exact ⟨ret_bool (by rw [HS.out, Bool.eq_iff_iff]; simp; try omega), HB.out⟩

end Go.Proofs.Ytogaellhkjjeaaa
