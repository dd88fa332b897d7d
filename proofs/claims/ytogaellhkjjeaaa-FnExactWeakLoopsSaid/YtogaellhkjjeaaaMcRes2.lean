/-
  WaleOf, ChildrenOf, of the program and of the reference.
-/
import Derived.Test.YtogaellhkjjeaaaMcRes
import Derived.Test.YtogaellhkjjeaaaMcKids
namespace Go.Proofs.Ytogaellhkjjeaaa
set_option linter.unusedVariables false
set_option linter.unusedSimpArgs false
open Go.RowKit

theorem ask_zero {m : Mc} {k : Int} (h : askC m k = 0) : okM m = true ∧ 0 ≤ k ∧ k < m.ls.length := by
  unfold askC at h
  split at h
  · omega
  · rename_i h1
    split at h
    · omega
    · rename_i h2
      have h3 : inB 0 k ((m.ls.length : Int) - 1) = true := by simpa using h2
      have := inB_iff.1 h3
      exact ⟨by simpa using h1, this.1, by omega⟩

set_option maxHeartbeats 4000000 in
set_option maxRecDepth 100000 in
theorem implWale_any (v : Value) (m : Mc) (k : Int) (w : World) (hl : RdM w w.heap.size v m) (hf : FitM m) :
    Calls Try.prog 21 #[v, .int .i64 k] w (GivesC w 2 1 (okList (askC m k) (waleL m k)).length (vI (okList (askC m k) (waleL m k))) (askC m k)) := by
  have hdr := hf.dr
  have hl0 := hl
  obtain ⟨f, b, cs, ls, d, rfl, h1, h2, h3, h4, h5, h6⟩ := hl
  obtain ⟨AF, cF, rfl⟩ := RdN.shape h1
  obtain ⟨AG, cG, rfl⟩ := RdN.shape h2
  obtain ⟨AC, cC, rfl⟩ := RdS.lens h3
  obtain ⟨AI, cI, rfl⟩ := RdN.shape h4
  obtain ⟨AD, cD, rfl⟩ := RdI.len h5
  have BW := Lib.hid (show Below w.heap.size w (w.alloc (.cells #[.int .i64 m.wd, .int .i64 m.rk, .slice AF m.fr.length cF, .slice AG m.bk.length cG, .slice AC m.cs.length cC, .slice AI m.ls.length cI, .slice AD m.dr.length cD] 29)) from (Below.refl _ _).alloc (Nat.le_refl _) _)
  have HP := Lib.hid (RdP.box (T := 29) h1 h2 h3 h4 h5 h6)
  have HM := Lib.hid (hl0.up BW.out BW.out.size)
  clear h1 h2 h3 h4 h5 h6 hl0
  by_cases ha : askC m k = 0
  case neg =>
    have HN := Lib.hid (fun w' hb => (show Below w.heap.size w w' → GivesC w 2 1 (okList (askC m k) (waleL m k)).length (vI (okList (askC m k) (waleL m k))) (askC m k) (.returned (.tuple #[.slice none 0 0, .int .i64 (askC m k)])) w' from fun hb => GivesC.nil ha rfl hb) hb)
    have e0 : (askC m k != 0) = true := by simpa using ha
    have HQ := Lib.hid (loopCode_any _ m k _ HM.out)
    generalize askC m k = A at *
    go_enter Try.func21, Try.ntmps21
    go_wp2_with fail
    refine (HQ.out).mono ?_
    rintro e w1 ⟨rfl, hb⟩
    have HB := Lib.hid (BW.out.trans (hb.mono BW.out.size))
    clear hb
    go_wp2
    go_ret2
    exact HN.out _ HB.out
  obtain ⟨hok, hk0, hk1⟩ := ask_zero ha
  have HAA := Lib.hid ha
  have HOK := Lib.hid hok
  have h300 := ls_len hok
  clear ha hok
  go_enter Try.func21, Try.ntmps21
  go_wp2_with fail
  refine (loopCode_any _ m k _ HM.out).mono ?_
  rintro e w1 ⟨rfl, hb⟩
  rw [HAA.out]
  have HB := Lib.hid (BW.out.trans (hb.mono BW.out.size))
  have HP1 := Lib.hid (HP.out.below hb)
  clear hb HM HP
  go_wp2_with fail
  refine (wale_any m _ k _ HP1.out HOK.out hk0 hk1).mono ?_
  rintro e w2 ⟨v, rfl, ho, hb⟩
  have HO := Lib.hid (ho.lo HB.out.size)
  have HB2 := Lib.hid (HB.out.trans (hb.mono HB.out.size))
  clear ho hb
  go_wp2
  go_ret2
  exact GivesC.yes HAA.out rfl HO.out HB2.out
set_option maxHeartbeats 4000000 in
set_option maxRecDepth 100000 in
theorem specWale_any (v : Value) (m : Mc) (k : Int) (w : World) (hl : RdM w w.heap.size v m) (hf : FitM m) :
    Calls Try.prog 30 #[v, .int .i64 k] w (GivesC w 2 1 (okList (askC m k) (waleL m k)).length (vI (okList (askC m k) (waleL m k))) (askC m k)) := by
  have hdr := hf.dr
  have hl0 := hl
  obtain ⟨f, b, cs, ls, d, rfl, h1, h2, h3, h4, h5, h6⟩ := hl
  obtain ⟨AF, cF, rfl⟩ := RdN.shape h1
  obtain ⟨AG, cG, rfl⟩ := RdN.shape h2
  obtain ⟨AC, cC, rfl⟩ := RdS.lens h3
  obtain ⟨AI, cI, rfl⟩ := RdN.shape h4
  obtain ⟨AD, cD, rfl⟩ := RdI.len h5
  have BW := Lib.hid (show Below w.heap.size w (w.alloc (.cells #[.int .i64 m.wd, .int .i64 m.rk, .slice AF m.fr.length cF, .slice AG m.bk.length cG, .slice AC m.cs.length cC, .slice AI m.ls.length cI, .slice AD m.dr.length cD] 29)) from (Below.refl _ _).alloc (Nat.le_refl _) _)
  have HP := Lib.hid (RdP.box (T := 29) h1 h2 h3 h4 h5 h6)
  have HM := Lib.hid (hl0.up BW.out BW.out.size)
  clear h1 h2 h3 h4 h5 h6 hl0
  by_cases ha : askC m k = 0
  case neg =>
    have HN := Lib.hid (fun w' hb => (show Below w.heap.size w w' → GivesC w 2 1 (okList (askC m k) (waleL m k)).length (vI (okList (askC m k) (waleL m k))) (askC m k) (.returned (.tuple #[.slice none 0 0, .int .i64 (askC m k)])) w' from fun hb => GivesC.nil ha rfl hb) hb)
    have e0 : (askC m k != 0) = true := by simpa using ha
    have HQ := Lib.hid (l11Ask_p m _ k _ HP.out hdr)
    generalize askC m k = A at *
    go_enter Try.func30, Try.ntmps30
    go_wp2_with fail
    refine (HQ.out).mono ?_
    rintro e w1 ⟨rfl, hb⟩
    have HB := Lib.hid (BW.out.trans (hb.mono BW.out.size))
    clear hb
    go_wp2
    go_ret2
    exact HN.out _ HB.out
  obtain ⟨hok, hk0, hk1⟩ := ask_zero ha
  have HAA := Lib.hid ha
  have HOK := Lib.hid hok
  have h300 := ls_len hok
  clear ha hok
  go_enter Try.func30, Try.ntmps30
  go_wp2_with fail
  refine (l11Ask_p m _ k _ HP.out hdr).mono ?_
  rintro e w1 ⟨rfl, hb⟩
  rw [HAA.out]
  have HB := Lib.hid (BW.out.trans (hb.mono BW.out.size))
  have HP1 := Lib.hid (HP.out.below hb)
  clear hb HM HP
  go_wp2_with fail
  refine (l11Wale_any m _ k _ HP1.out HOK.out hk0 hk1).mono ?_
  rintro e w2 ⟨v, rfl, ho, hb⟩
  have HO := Lib.hid (ho.lo HB.out.size)
  have HB2 := Lib.hid (HB.out.trans (hb.mono HB.out.size))
  clear ho hb
  go_wp2
  go_ret2
  exact GivesC.yes HAA.out rfl HO.out HB2.out
set_option maxHeartbeats 4000000 in
set_option maxRecDepth 100000 in
theorem specChildren_any (v : Value) (m : Mc) (k : Int) (w : World) (hl : RdM w w.heap.size v m) (hf : FitM m) :
    Calls Try.prog 29 #[v, .int .i64 k] w (GivesC w 2 1 (okList (askC m k) (chL m k)).length (vI (okList (askC m k) (chL m k))) (askC m k)) := by
  have hdr := hf.dr
  have hl0 := hl
  obtain ⟨f, b, cs, ls, d, rfl, h1, h2, h3, h4, h5, h6⟩ := hl
  obtain ⟨AF, cF, rfl⟩ := RdN.shape h1
  obtain ⟨AG, cG, rfl⟩ := RdN.shape h2
  obtain ⟨AC, cC, rfl⟩ := RdS.lens h3
  obtain ⟨AI, cI, rfl⟩ := RdN.shape h4
  obtain ⟨AD, cD, rfl⟩ := RdI.len h5
  have BW := Lib.hid (show Below w.heap.size w (w.alloc (.cells #[.int .i64 m.wd, .int .i64 m.rk, .slice AF m.fr.length cF, .slice AG m.bk.length cG, .slice AC m.cs.length cC, .slice AI m.ls.length cI, .slice AD m.dr.length cD] 29)) from (Below.refl _ _).alloc (Nat.le_refl _) _)
  have HP := Lib.hid (RdP.box (T := 29) h1 h2 h3 h4 h5 h6)
  have HM := Lib.hid (hl0.up BW.out BW.out.size)
  clear h1 h2 h3 h4 h5 h6 hl0
  by_cases ha : askC m k = 0
  case neg =>
    have HN := Lib.hid (fun w' hb => (show Below w.heap.size w w' → GivesC w 2 1 (okList (askC m k) (chL m k)).length (vI (okList (askC m k) (chL m k))) (askC m k) (.returned (.tuple #[.slice none 0 0, .int .i64 (askC m k)])) w' from fun hb => GivesC.nil ha rfl hb) hb)
    have e0 : (askC m k != 0) = true := by simpa using ha
    have HQ := Lib.hid (l11Ask_p m _ k _ HP.out hdr)
    generalize askC m k = A at *
    go_enter Try.func29, Try.ntmps29
    go_wp2_with fail
    refine (HQ.out).mono ?_
    rintro e w1 ⟨rfl, hb⟩
    have HB := Lib.hid (BW.out.trans (hb.mono BW.out.size))
    clear hb
    go_wp2
    go_ret2
    exact HN.out _ HB.out
  obtain ⟨hok, hk0, hk1⟩ := ask_zero ha
  have HAA := Lib.hid ha
  have HOK := Lib.hid hok
  have h300 := ls_len hok
  clear ha hok
  go_enter Try.func29, Try.ntmps29
  go_wp2_with fail
  refine (l11Ask_p m _ k _ HP.out hdr).mono ?_
  rintro e w1 ⟨rfl, hb⟩
  rw [HAA.out]
  have HB := Lib.hid (BW.out.trans (hb.mono BW.out.size))
  have HP1 := Lib.hid (HP.out.below hb)
  clear hb HM HP
  go_wp2_with fail
  refine (l11Children_any m _ k _ HP1.out h300).mono ?_
  rintro e w2 ⟨v, rfl, ho, hb⟩
  have HO := Lib.hid (ho.lo HB.out.size)
  have HB2 := Lib.hid (HB.out.trans (hb.mono HB.out.size))
  clear ho hb
  go_wp2
  go_ret2
  exact GivesC.yes HAA.out rfl HO.out HB2.out

set_option maxHeartbeats 4000000 in
set_option maxRecDepth 100000 in
theorem implChildren_any (v : Value) (m : Mc) (k : Int) (w : World) (hl : RdM w w.heap.size v m) (hf : FitM m) :
    Calls Try.prog 19 #[v, .int .i64 k] w (GivesC w 2 1 (okList (askC m k) (chL m k)).length (vI (okList (askC m k) (chL m k))) (askC m k)) := by
  have hdr := hf.dr
  have hl0 := hl
  obtain ⟨f, b, cs, ls, d, rfl, h1, h2, h3, h4, h5, h6⟩ := hl
  obtain ⟨AF, cF, rfl⟩ := RdN.shape h1
  obtain ⟨AG, cG, rfl⟩ := RdN.shape h2
  obtain ⟨AC, cC, rfl⟩ := RdS.lens h3
  obtain ⟨AI, cI, rfl⟩ := RdN.shape h4
  obtain ⟨AD, cD, rfl⟩ := RdI.len h5
  have BW := Lib.hid (show Below w.heap.size w (w.alloc (.cells #[.int .i64 m.wd, .int .i64 m.rk, .slice AF m.fr.length cF, .slice AG m.bk.length cG, .slice AC m.cs.length cC, .slice AI m.ls.length cI, .slice AD m.dr.length cD] 29)) from (Below.refl _ _).alloc (Nat.le_refl _) _)
  have HP := Lib.hid (RdP.box (T := 29) h1 h2 h3 h4 h5 h6)
  have HM := Lib.hid (hl0.up BW.out BW.out.size)
  clear h1 h2 h3 h4 h5 h6 hl0
  by_cases ha : askC m k = 0
  case neg =>
    have HN := Lib.hid (fun w' hb => (show Below w.heap.size w w' → GivesC w 2 1 (okList (askC m k) (chL m k)).length (vI (okList (askC m k) (chL m k))) (askC m k) (.returned (.tuple #[.slice none 0 0, .int .i64 (askC m k)])) w' from fun hb => GivesC.nil ha rfl hb) hb)
    have e0 : (askC m k != 0) = true := by simpa using ha
    have HQ := Lib.hid (loopCode_any _ m k _ HM.out)
    generalize askC m k = A at *
    go_enter Try.func19, Try.ntmps19
    go_wp2_with fail
    refine (HQ.out).mono ?_
    rintro e w1 ⟨rfl, hb⟩
    have HB := Lib.hid (BW.out.trans (hb.mono BW.out.size))
    clear hb
    go_wp2
    go_ret2
    exact HN.out _ HB.out
  obtain ⟨hok, hk0, hk1⟩ := ask_zero ha
  have HAA := Lib.hid ha
  have HOK := Lib.hid hok
  have h300 := ls_len hok
  clear ha hok
  go_enter Try.func19, Try.ntmps19
  go_wp2_with fail
  refine (loopCode_any _ m k _ HM.out).mono ?_
  rintro e w1 ⟨rfl, hb⟩
  rw [HAA.out]
  have HB := Lib.hid (BW.out.trans (hb.mono BW.out.size))
  have HP1 := Lib.hid (HP.out.below hb)
  clear hb HM HP
  obtain ⟨kn, rfl⟩ := Int.eq_ofNat_of_zero_le hk0
  have hkn : kn < m.ls.length := by omega
  go_wp2_with fail
  refine (children_any m _ _ HP1.out HOK.out).mono ?_
  rintro e w2 ⟨f, rfl, hm, hb⟩
  have hc := hm.row.cell (i := kn) hkn
  have HO := Lib.hid ((OwC.of_own (hm.own kn hkn)).lo (show w.heap.size ≤ w1.heap.size + 1 by have := HB.out.size; omega))
  have HB2 := Lib.hid (HB.out.trans (hb.mono HB.out.size))
  obtain ⟨Ak, ck, hfk, -⟩ := HO.out.cells
  generalize f kn = fk at *
  subst hfk
  clear hm hb
  go_wp2
  go_ret2
  exact GivesC.yes HAA.out rfl HO.out HB2.out

end Go.Proofs.Ytogaellhkjjeaaa
