/-
  LoopState, Undone, IsSecure, of the program and of the reference.
-/
import Derived.Test.YtbffmekhhfhacaaMcRes2
import Derived.Test.YtbffmekhhfhacaaMcUndo2
namespace Go.Proofs.Ytbffmekhhfhacaa
set_option linter.unusedVariables false
set_option linter.unusedSimpArgs false
open Go.RowKit

/-- The code of a machine. -/
def okC (m : Mc) : Int := if okM m = true then 0 else 1
theorem okC_no {m : Mc} (h : okM m = false) : okC m = 1 := by simp [okC, h]
theorem okC_yes {m : Mc} (h : okM m = true) : okC m = 0 := by simp [okC, h]

set_option maxHeartbeats 4000000 in
set_option maxRecDepth 100000 in
theorem l11State_any (m : Mc) (g : Nat) (k : Int) (w : World) (h : RdP w g m) (ok : okM m = true) :
    Calls Try.prog 80 #[.pointer (some ⟨g, 0, none⟩), .int .i64 k] w fun e w' => e = .returned (.int .i64 (stM m k)) ∧ Below w.heap.size w w' := by
  have h300 := ls_len ok
  have HP := Lib.hid h
  have HOK := Lib.hid ok
  have HL := Lib.hid (l07Live_any m g w h ok)
  cases hl : (liveL m).contains k
  case true =>
    have HS := Lib.hid (show stM m k = 2 by unfold stM; rw [if_pos hl])
    have HK := Lib.hid hl
    clear hl h ok
    go_enter Try.func80, Try.ntmps80
    go_wp2_with fail
    refine HL.out.mono ?_
    rintro e w1 ⟨v, rfl, ho, hb⟩
    have HB := Lib.hid hb
    have HR := Lib.hid (RdI.of_own ho)
    clear ho hb
    go_wp2_with fail
    refine (l00Has_any _ _ k _ HR.out).mono ?_
    rintro e w2 ⟨rfl, hb⟩
    rw [HK.out]
    have HB2 := Lib.hid (HB.out.trans (hb.mono HB.out.size))
    clear hb
    go_wp2
    go_ret
    exact ⟨ret_int HS.out.symm, HB2.out⟩
  have HK := Lib.hid hl
  have h2 := h
  obtain ⟨F, G, C, L, D, hc, h1, h2', h3, h4, h5, h6⟩ := h2
  have HC := Lib.hid hc
  have HD := Lib.hid h5
  have hgl := h.lt
  clear hc h1 h2' h3 h4 h5 h6
  cases hd : m.dr.contains k
  case true =>
    have HS := Lib.hid (show stM m k = 3 by unfold stM; rw [hl, if_neg (by decide), if_pos hd])
    have HK2 := Lib.hid hd
    clear hl h ok hd
    go_enter Try.func80, Try.ntmps80
    go_wp2_with fail
    refine HL.out.mono ?_
    rintro e w1 ⟨v, rfl, ho, hb⟩
    have HB := Lib.hid hb
    have HR := Lib.hid (RdI.of_own ho)
    clear ho hb
    go_wp2_with fail
    refine (l00Has_any _ _ k _ HR.out).mono ?_
    rintro e w2 ⟨rfl, hb⟩
    rw [HK.out]
    have HB2 := Lib.hid (HB.out.trans (hb.mono HB.out.size))
    clear hb
    obtain ⟨x0, x1, x2, x3, x4, x5, x6⟩ := (HC.out.below HB2.out hgl).seven
    go_wp2_with fail
    refine (l00Has_any _ m.dr k _ ((HD.out.below HB2.out).more HB2.out.size)).mono ?_
    rintro e w3 ⟨rfl, hb⟩
    rw [HK2.out]
    have HB3 := Lib.hid (HB2.out.trans (hb.mono HB2.out.size))
    clear hb
    go_wp2
    go_ret
    exact ⟨ret_int HS.out.symm, HB3.out⟩
  have HK2 := Lib.hid hd
  have HCH := Lib.hid (show stM m k = if 0 < (chL m k).length then 1 else 4 by unfold stM; rw [hl, hd, if_neg (by decide), if_neg (by decide)])
  clear hl h ok hd
  by_cases hz : 0 < (chL m k).length
  all_goals
    first
      | (have hz1 : (0 : Int) < ((chL m k).length : Int) := by omega
         have HS := Lib.hid (show stM m k = 1 by rw [HCH.out, if_pos hz])
         clear HCH
         generalize hx : chL m k = X at *
         have HX := Lib.hid hx
         clear hx)
      | (have hz1 : ¬ (0 : Int) < ((chL m k).length : Int) := by omega
         have HS := Lib.hid (show stM m k = 4 by rw [HCH.out, if_neg hz])
         clear HCH
         generalize hx : chL m k = X at *
         have HX := Lib.hid hx
         clear hx)
    go_enter Try.func80, Try.ntmps80
    go_wp2_with fail
    refine HL.out.mono ?_
    rintro e w1 ⟨v, rfl, ho, hb⟩
    have HB := Lib.hid hb
    have HR := Lib.hid (RdI.of_own ho)
    clear ho hb
    go_wp2_with fail
    refine (l00Has_any _ _ k _ HR.out).mono ?_
    rintro e w2 ⟨rfl, hb⟩
    rw [HK.out]
    have HB2 := Lib.hid (HB.out.trans (hb.mono HB.out.size))
    clear hb
    obtain ⟨x0, x1, x2, x3, x4, x5, x6⟩ := (HC.out.below HB2.out hgl).seven
    go_wp2_with fail
    refine (l00Has_any _ m.dr k _ ((HD.out.below HB2.out).more HB2.out.size)).mono ?_
    rintro e w3 ⟨rfl, hb⟩
    rw [HK2.out]
    have HB3 := Lib.hid (HB2.out.trans (hb.mono HB2.out.size))
    clear hb x0 x1 x2 x3 x4 x5 x6
    go_wp2_with fail
    refine (l11Children_any m g k _ (HP.out.below HB3.out) h300).mono ?_
    rintro e w4 ⟨v4, rfl, ho, hb⟩
    rw [HX.out] at ho
    obtain ⟨A4, c4, rfl, -⟩ := ho.cells
    have HB4 := Lib.hid (HB3.out.trans (hb.mono HB3.out.size))
    clear hb ho
    go_wp2
    go_ret
    exact ⟨ret_int HS.out.symm, HB4.out⟩

/-- What LoopState answers. -/
def stV (m : Mc) (k : Int) : Int := if askC m k = 0 then stM m k else 0
def stR (m : Mc) (k : Int) (e : Ending) : Prop := e = .returned (.tuple #[.int .i64 (stV m k), .int .i64 (askC m k)])
set_option maxHeartbeats 4000000 in
set_option maxRecDepth 100000 in
theorem specState_any (v : Value) (m : Mc) (k : Int) (w : World) (hl : RdM w w.heap.size v m) (hf : FitM m) :
    Calls Try.prog 34 #[v, .int .i64 k] w fun e w' => stR m k e ∧ Below w.heap.size w w' := by
  have hdr := hf.dr
  have hl0 := hl
  obtain ⟨f, b, cs, ls, d, rfl, h1, h2, h3, h4, h5, h6⟩ := hl
  obtain ⟨AF, cF, rfl⟩ := RdN.shape h1
  obtain ⟨AG, cG, rfl⟩ := RdN.shape h2
  obtain ⟨AC, cC, rfl⟩ := RdS.lens h3
  obtain ⟨AI, cI, rfl⟩ := RdN.shape h4
  obtain ⟨AD, cD, rfl⟩ := RdI.len h5
  have BW := Lib.hid (show Below w.heap.size w (w.alloc (.cells #[.int .i64 m.wd, .int .i64 m.rk, .slice AF m.fr.length cF, .slice AG m.bk.length cG, .slice AC m.cs.length cC, .slice AI m.ls.length cI, .slice AD m.dr.length cD] 34)) from (Below.refl _ _).alloc (Nat.le_refl _) _)
  have HP := Lib.hid (RdP.box (T := 34) h1 h2 h3 h4 h5 h6)
  have HM := Lib.hid (hl0.up BW.out BW.out.size)
  clear h1 h2 h3 h4 h5 h6 hl0
  by_cases ha : askC m k = 0
  case neg =>
    have HN := Lib.hid (fun w' hb => (show Below w.heap.size w w' → stR m k (.returned (.tuple #[.int .i64 0, .int .i64 (askC m k)])) ∧ Below w.heap.size w w' from fun hb => ⟨by unfold stR stV; rw [if_neg ha], hb⟩) hb)
    have e0 : (askC m k != 0) = true := by simpa using ha
    have HQ := Lib.hid (l11Ask_p m _ k _ HP.out hdr)
    generalize askC m k = A at *
    go_enter Try.func34, Try.ntmps34
    go_wp2_with fail
    refine (HQ.out).mono ?_
    rintro e w1 ⟨rfl, hb⟩
    have HB := Lib.hid (BW.out.trans (hb.mono BW.out.size))
    clear hb
    go_wp2
    go_ret2
    exact HN.out _ HB.out
  obtain ⟨hok, hk0, hk1⟩ := ask_zero ha
  have HAA := Lib.hid ha
  have HOK := Lib.hid hok
  have h300 := ls_len hok
  clear ha hok
  go_enter Try.func34, Try.ntmps34
  go_wp2_with fail
  refine (l11Ask_p m _ k _ HP.out hdr).mono ?_
  rintro e w1 ⟨rfl, hb⟩
  rw [HAA.out]
  have HB := Lib.hid (BW.out.trans (hb.mono BW.out.size))
  have HP1 := Lib.hid (HP.out.below hb)
  clear hb HM HP
  go_wp2_with fail
  refine (l11State_any m _ k _ HP1.out HOK.out).mono ?_
  rintro e w2 ⟨rfl, hb⟩
  have HB2 := Lib.hid (HB.out.trans (hb.mono HB.out.size))
  clear hb
  go_wp2
  go_ret2
  exact ⟨by unfold stR stV; rw [HAA.out]; rfl, HB2.out⟩
set_option maxHeartbeats 4000000 in
set_option maxRecDepth 100000 in
theorem implState_any (v : Value) (m : Mc) (k : Int) (w : World) (hl : RdM w w.heap.size v m) (hf : FitM m) :
    Calls Try.prog 35 #[v, .int .i64 k] w fun e w' => stR m k e ∧ Below w.heap.size w w' := by
  have hdr := hf.dr
  have hl0 := hl
  obtain ⟨f, b, cs, ls, d, rfl, h1, h2, h3, h4, h5, h6⟩ := hl
  obtain ⟨AF, cF, rfl⟩ := RdN.shape h1
  obtain ⟨AG, cG, rfl⟩ := RdN.shape h2
  obtain ⟨AC, cC, rfl⟩ := RdS.lens h3
  obtain ⟨AI, cI, rfl⟩ := RdN.shape h4
  obtain ⟨AD, cD, rfl⟩ := RdI.len h5
  have BW := Lib.hid (show Below w.heap.size w (w.alloc (.cells #[.int .i64 m.wd, .int .i64 m.rk, .slice AF m.fr.length cF, .slice AG m.bk.length cG, .slice AC m.cs.length cC, .slice AI m.ls.length cI, .slice AD m.dr.length cD] 34)) from (Below.refl _ _).alloc (Nat.le_refl _) _)
  have HP := Lib.hid (RdP.box (T := 34) h1 h2 h3 h4 h5 h6)
  have HM := Lib.hid (hl0.up BW.out BW.out.size)
  clear h1 h2 h3 h4 h5 h6 hl0
  by_cases ha : askC m k = 0
  case neg =>
    have HN := Lib.hid (fun w' hb => (show Below w.heap.size w w' → stR m k (.returned (.tuple #[.int .i64 0, .int .i64 (askC m k)])) ∧ Below w.heap.size w w' from fun hb => ⟨by unfold stR stV; rw [if_neg ha], hb⟩) hb)
    have e0 : (askC m k != 0) = true := by simpa using ha
    have HQ := Lib.hid (loopCode_any _ m k _ HM.out)
    generalize askC m k = A at *
    go_enter Try.func35, Try.ntmps35
    go_wp2_with fail
    refine (HQ.out).mono ?_
    rintro e w1 ⟨rfl, hb⟩
    have HB := Lib.hid (BW.out.trans (hb.mono BW.out.size))
    clear hb
    go_wp2
    go_ret2
    exact HN.out _ HB.out
  obtain ⟨hok, hk0, hk1⟩ := ask_zero ha
  have HAA := Lib.hid ha
  have HOK := Lib.hid hok
  have h300 := ls_len hok
  clear ha hok
  go_enter Try.func35, Try.ntmps35
  go_wp2_with fail
  refine (loopCode_any _ m k _ HM.out).mono ?_
  rintro e w1 ⟨rfl, hb⟩
  rw [HAA.out]
  have HB := Lib.hid (BW.out.trans (hb.mono BW.out.size))
  have HP1 := Lib.hid (HP.out.below hb)
  clear hb HM HP
  obtain ⟨kn, rfl⟩ := Int.eq_ofNat_of_zero_le hk0
  have hkn : kn < m.ls.length := by omega
  go_wp2_with fail
  refine (states_any m _ _ HP1.out HOK.out).mono ?_
  rintro e w2 ⟨v, rfl, ho, hb⟩
  obtain ⟨A2, c2, rfl, -, hcell⟩ := ho.cells
  obtain ⟨g2, rfl, -, -, -, hcx⟩ := hcell kn hkn
  have hc := hcx kn (.int .i64 (stM m (kn : Int))) (by omega) (by simp [vI, stL, hkn])
  have HB2 := Lib.hid (HB.out.trans (hb.mono HB.out.size))
  clear hb ho hcell hcx
  go_wp2
  go_ret2
  exact ⟨by unfold stR stV; rw [HAA.out]; rfl, HB2.out⟩

set_option maxHeartbeats 4000000 in
set_option maxRecDepth 100000 in
theorem specUndone_any (v : Value) (m : Mc) (w : World) (hl : RdM w w.heap.size v m) (hf : FitM m) :
    Calls Try.prog 38 #[v] w (GivesC w 2 1 (okList (okC m) (undone m)).length (vI (okList (okC m) (undone m))) (okC m)) := by
  have hdr := hf.dr
  have hl0 := hl
  obtain ⟨f, b, cs, ls, d, rfl, h1, h2, h3, h4, h5, h6⟩ := hl
  obtain ⟨AF, cF, rfl⟩ := RdN.shape h1
  obtain ⟨AG, cG, rfl⟩ := RdN.shape h2
  obtain ⟨AC, cC, rfl⟩ := RdS.lens h3
  obtain ⟨AI, cI, rfl⟩ := RdN.shape h4
  obtain ⟨AD, cD, rfl⟩ := RdI.len h5
  have BW := Lib.hid (show Below w.heap.size w (w.alloc (.cells #[.int .i64 m.wd, .int .i64 m.rk, .slice AF m.fr.length cF, .slice AG m.bk.length cG, .slice AC m.cs.length cC, .slice AI m.ls.length cI, .slice AD m.dr.length cD] 34)) from (Below.refl _ _).alloc (Nat.le_refl _) _)
  have HP := Lib.hid (RdP.box (T := 34) h1 h2 h3 h4 h5 h6)
  have HM := Lib.hid (hl0.up BW.out BW.out.size)
  clear h1 h2 h3 h4 h5 h6 hl0
  have HQ := Lib.hid (l07Ok_p m _ _ HP.out hdr)
  cases hok : okM m
  · have HN := Lib.hid (fun w' hb => (show Below w.heap.size w w' → GivesC w 2 1 (okList (okC m) (undone m)).length (vI (okList (okC m) (undone m))) (okC m) (.returned (.tuple #[.slice none 0 0, .int .i64 1])) w' from fun hb => by rw [okC_no hok]; exact GivesC.nil (by decide) rfl hb) hb)
    have HK := Lib.hid hok
    clear hok
    go_enter Try.func38, Try.ntmps38
    go_wp2_with fail
    refine HQ.out.mono ?_
    rintro e w1 ⟨rfl, hb⟩
    rw [HK.out]
    have HB := Lib.hid (BW.out.trans (hb.mono BW.out.size))
    clear hb
    go_wp2
    go_ret2
    exact HN.out _ HB.out
  have HOK := Lib.hid hok
  have h300 := ls_len hok
  clear hok
  go_enter Try.func38, Try.ntmps38
  go_wp2_with fail
  refine HQ.out.mono ?_
  rintro e w1 ⟨rfl, hb⟩
  rw [HOK.out]
  have HB := Lib.hid (BW.out.trans (hb.mono BW.out.size))
  have HP1 := Lib.hid (HP.out.below hb)
  clear hb HM HP HQ
  go_wp2_with fail
  refine (l07Live_any m _ _ HP1.out HOK.out).mono ?_
  rintro e w2 ⟨v2, rfl, ho, hb⟩
  have HR := Lib.hid (RdI.of_own ho)
  have HP2 := Lib.hid (HP1.out.below hb)
  have HB2 := Lib.hid (HB.out.trans (hb.mono HB.out.size))
  clear ho hb
  go_wp2_with fail
  refine (l12Undone_any m _ _ _ _ HP2.out HOK.out HR.out).mono ?_
  rintro e w3 ⟨v3, rfl, ho, hb⟩
  have HO := Lib.hid (ho.lo HB2.out.size)
  have HB3 := Lib.hid (HB2.out.trans (hb.mono HB2.out.size))
  clear ho hb
  go_wp2
  go_ret2
  exact GivesC.yes (okC_yes HOK.out) rfl HO.out HB3.out
set_option maxHeartbeats 4000000 in
set_option maxRecDepth 100000 in
theorem implUndone_any (v : Value) (m : Mc) (w : World) (hl : RdM w w.heap.size v m) (hf : FitM m) :
    Calls Try.prog 39 #[v] w (GivesC w 2 1 (okList (okC m) (undone m)).length (vI (okList (okC m) (undone m))) (okC m)) := by
  have hdr := hf.dr
  have hl0 := hl
  obtain ⟨f, b, cs, ls, d, rfl, h1, h2, h3, h4, h5, h6⟩ := hl
  obtain ⟨AF, cF, rfl⟩ := RdN.shape h1
  obtain ⟨AG, cG, rfl⟩ := RdN.shape h2
  obtain ⟨AC, cC, rfl⟩ := RdS.lens h3
  obtain ⟨AI, cI, rfl⟩ := RdN.shape h4
  obtain ⟨AD, cD, rfl⟩ := RdI.len h5
  have BW := Lib.hid (show Below w.heap.size w (w.alloc (.cells #[.int .i64 m.wd, .int .i64 m.rk, .slice AF m.fr.length cF, .slice AG m.bk.length cG, .slice AC m.cs.length cC, .slice AI m.ls.length cI, .slice AD m.dr.length cD] 34)) from (Below.refl _ _).alloc (Nat.le_refl _) _)
  have HP := Lib.hid (RdP.box (T := 34) h1 h2 h3 h4 h5 h6)
  have HM := Lib.hid (hl0.up BW.out BW.out.size)
  clear h1 h2 h3 h4 h5 h6 hl0
  have HQ := Lib.hid (validMachine_any _ m _ HM.out)
  cases hok : okM m
  · have HN := Lib.hid (fun w' hb => (show Below w.heap.size w w' → GivesC w 2 1 (okList (okC m) (undone m)).length (vI (okList (okC m) (undone m))) (okC m) (.returned (.tuple #[.slice none 0 0, .int .i64 1])) w' from fun hb => by rw [okC_no hok]; exact GivesC.nil (by decide) rfl hb) hb)
    have HK := Lib.hid hok
    clear hok
    go_enter Try.func39, Try.ntmps39
    go_wp2_with fail
    refine HQ.out.mono ?_
    rintro e w1 ⟨rfl, hb⟩
    rw [HK.out]
    have HB := Lib.hid (BW.out.trans (hb.mono BW.out.size))
    clear hb
    go_wp2
    go_ret2
    exact HN.out _ HB.out
  have HOK := Lib.hid hok
  have h300 := ls_len hok
  clear hok
  go_enter Try.func39, Try.ntmps39
  go_wp2_with fail
  refine HQ.out.mono ?_
  rintro e w1 ⟨rfl, hb⟩
  rw [HOK.out]
  have HB := Lib.hid (BW.out.trans (hb.mono BW.out.size))
  have HP1 := Lib.hid (HP.out.below hb)
  clear hb HM HP HQ
  go_wp2_with fail
  refine (isLive_any m _ _ HP1.out HOK.out).mono ?_
  rintro e w2 ⟨rfl, hr, hb⟩
  have HR := Lib.hid hr
  have HP2 := Lib.hid (HP1.out.below hb)
  have HB2 := Lib.hid (HB.out.trans (hb.mono HB.out.size))
  clear hr hb
  go_wp2_with fail
  refine (undone_any m _ _ (hasB (liveL m)) _ HP2.out HOK.out HR.out).mono ?_
  rintro e w3 ⟨go, rfl, hgo, hr, hb⟩
  have hl : (undL m (hasB (liveL m))).length = m.ls.length := undR_len _ _ _
  rw [← hl] at hr
  have HR3 := Lib.hid hr
  have HQ3 := Lib.hid (indicesOf_any go (undL m (hasB (liveL m))) _ hr (by omega))
  rw [hl] at HQ3
  have HB3 := Lib.hid (HB2.out.trans (hb.mono HB2.out.size))
  clear hr hb hl
  go_wp2_with fail
  refine HQ3.out.mono ?_
  rintro e w4 ⟨v4, rfl, ho, hb⟩
  have HO := Lib.hid (ho.lo HB3.out.size)
  have HB4 := Lib.hid (HB3.out.trans (hb.mono HB3.out.size))
  clear ho hb
  go_wp2
  go_ret2
  exact GivesC.yes (okC_yes HOK.out) rfl HO.out HB4.out

/-- Is a machine secure? -/
def secB (m : Mc) : Bool := okM m && decide ((undone m).length = 0)
set_option maxHeartbeats 4000000 in
set_option maxRecDepth 100000 in
theorem specSecure_any (v : Value) (m : Mc) (w : World) (hl : RdM w w.heap.size v m) (hf : FitM m) :
    Calls Try.prog 36 #[v] w fun e w' => e = .returned (.bool (secB m)) ∧ Below w.heap.size w w' := by
  have hdr := hf.dr
  have hl0 := hl
  obtain ⟨f, b, cs, ls, d, rfl, h1, h2, h3, h4, h5, h6⟩ := hl
  obtain ⟨AF, cF, rfl⟩ := RdN.shape h1
  obtain ⟨AG, cG, rfl⟩ := RdN.shape h2
  obtain ⟨AC, cC, rfl⟩ := RdS.lens h3
  obtain ⟨AI, cI, rfl⟩ := RdN.shape h4
  obtain ⟨AD, cD, rfl⟩ := RdI.len h5
  have BW := Lib.hid (show Below w.heap.size w (w.alloc (.cells #[.int .i64 m.wd, .int .i64 m.rk, .slice AF m.fr.length cF, .slice AG m.bk.length cG, .slice AC m.cs.length cC, .slice AI m.ls.length cI, .slice AD m.dr.length cD] 34)) from (Below.refl _ _).alloc (Nat.le_refl _) _)
  have HP := Lib.hid (RdP.box (T := 34) h1 h2 h3 h4 h5 h6)
  have HM := Lib.hid (hl0.up BW.out BW.out.size)
  clear h1 h2 h3 h4 h5 h6 hl0
  have HQ := Lib.hid (l07Ok_p m _ _ HP.out hdr)
  cases hok : okM m
  · have HN := Lib.hid (fun w' hb => (show Below w.heap.size w w' → (Ending.returned (.bool false) = .returned (.bool (secB m)) ∧ Below w.heap.size w w') from fun hb => ⟨ret_bool (by simp [secB, hok]), hb⟩) hb)
    have HK := Lib.hid hok
    clear hok
    go_enter Try.func36, Try.ntmps36
    go_wp2_with fail
    refine HQ.out.mono ?_
    rintro e w1 ⟨rfl, hb⟩
    rw [HK.out]
    have HB := Lib.hid (BW.out.trans (hb.mono BW.out.size))
    clear hb
    go_wp2
    go_ret
    exact HN.out _ HB.out
  have HOK := Lib.hid hok
  have h300 := ls_len hok
  clear hok
  go_enter Try.func36, Try.ntmps36
  go_wp2_with fail
  refine HQ.out.mono ?_
  rintro e w1 ⟨rfl, hb⟩
  rw [HOK.out]
  have HB := Lib.hid (BW.out.trans (hb.mono BW.out.size))
  have HP1 := Lib.hid (HP.out.below hb)
  clear hb HM HP HQ
  go_wp2_with fail
  refine (l07Live_any m _ _ HP1.out HOK.out).mono ?_
  rintro e w2 ⟨v2, rfl, ho, hb⟩
  have HR := Lib.hid (RdI.of_own ho)
  have HP2 := Lib.hid (HP1.out.below hb)
  have HB2 := Lib.hid (HB.out.trans (hb.mono HB.out.size))
  clear ho hb
  go_wp2_with fail
  refine (l12Undone_any m _ _ _ _ HP2.out HOK.out HR.out).mono ?_
  rintro e w3 ⟨v3, rfl, ho, hb⟩
  obtain ⟨A3, c3, rfl, -⟩ := ho.cells
  have HB3 := Lib.hid (HB2.out.trans (hb.mono HB2.out.size))
  have HS := Lib.hid (show secB m = decide ((idxT 0 (undL m (hasB (liveL m)))).length = 0) by unfold secB undone; rw [HOK.out]; rfl)
  generalize (idxT 0 (undL m (hasB (liveL m)))).length = N at *
  clear ho hb
  go_wp2
  go_ret
  exact ⟨ret_bool (by rw [HS.out, Bool.eq_iff_iff]; simp; try omega), HB3.out⟩
set_option maxHeartbeats 4000000 in
set_option maxRecDepth 100000 in
theorem implSecure_any (v : Value) (m : Mc) (w : World) (hl : RdM w w.heap.size v m) (hf : FitM m) :
    Calls Try.prog 37 #[v] w fun e w' => e = .returned (.bool (secB m)) ∧ Below w.heap.size w w' := by
  have hdr := hf.dr
  have hl0 := hl
  obtain ⟨f, b, cs, ls, d, rfl, h1, h2, h3, h4, h5, h6⟩ := hl
  obtain ⟨AF, cF, rfl⟩ := RdN.shape h1
  obtain ⟨AG, cG, rfl⟩ := RdN.shape h2
  obtain ⟨AC, cC, rfl⟩ := RdS.lens h3
  obtain ⟨AI, cI, rfl⟩ := RdN.shape h4
  obtain ⟨AD, cD, rfl⟩ := RdI.len h5
  have BW := Lib.hid (show Below w.heap.size w (w.alloc (.cells #[.int .i64 m.wd, .int .i64 m.rk, .slice AF m.fr.length cF, .slice AG m.bk.length cG, .slice AC m.cs.length cC, .slice AI m.ls.length cI, .slice AD m.dr.length cD] 34)) from (Below.refl _ _).alloc (Nat.le_refl _) _)
  have HP := Lib.hid (RdP.box (T := 34) h1 h2 h3 h4 h5 h6)
  have HM := Lib.hid (hl0.up BW.out BW.out.size)
  clear h1 h2 h3 h4 h5 h6 hl0
  have HQ := Lib.hid (implUndone_any _ m _ HM.out hf)
  cases hok : okM m
  · have HS := Lib.hid (show secB m = false by simp [secB, hok])
    have HE := Lib.hid (okC_no hok)
    rw [HE.out] at HQ
    clear hok
    go_enter Try.func37, Try.ntmps37
    go_wp2_with fail
    refine HQ.out.mono ?_
    rintro e w1 ⟨v1, rfl, ho, hb⟩
    have HB := Lib.hid (BW.out.trans (hb.mono BW.out.size))
    clear hb ho
    go_wp2
    go_ret
    exact ⟨ret_bool HS.out.symm, HB.out⟩
  · have HS := Lib.hid (show secB m = decide ((undone m).length = 0) by simp [secB, hok])
    have HE := Lib.hid (okC_yes hok)
    rw [HE.out, okList_yes rfl] at HQ
    clear hok
    generalize undone m = U at *
    go_enter Try.func37, Try.ntmps37
    go_wp2_with fail
    refine HQ.out.mono ?_
    rintro e w1 ⟨v1, rfl, ho, hb⟩
    obtain ⟨A3, c3, rfl, -⟩ := ho.cells
    have HB := Lib.hid (BW.out.trans (hb.mono BW.out.size))
    clear hb ho
    generalize U.length = N at *
    go_wp2
    go_ret
    exact ⟨ret_bool (by rw [HS.out, Bool.eq_iff_iff]; simp; try omega), HB.out⟩

end Go.Proofs.Ytbffmekhhfhacaa
