/-
  CourseOf of the program.
-/
import Derived.Test.YtghjnkdomjhflaaMcCourse
namespace Go.Proofs.Ytghjnkdomjhflaa
set_option linter.unusedVariables false
set_option linter.unusedSimpArgs false
open Go.RowKit

set_option maxHeartbeats 8000000 in
set_option maxRecDepth 100000 in
theorem implCourse_any (v : Value) (m : Mc) (k : Int) (w : World) (hl : RdM w w.heap.size v m) (hf : FitM m) :
    Calls Try.prog 18 #[v, .int .i64 k] w fun e w' => couR m k e ∧ Below w.heap.size w w' := by
  have hl0 := hl
  obtain ⟨f, b, cs, ls, d, rfl, h1, h2, h3, h4, h5, h6⟩ := hl
  obtain ⟨AF, cF, rfl⟩ := RdN.shape h1
  obtain ⟨AG, cG, rfl⟩ := RdN.shape h2
  obtain ⟨AC, cC, rfl⟩ := RdS.lens h3
  obtain ⟨AI, cI, rfl⟩ := RdN.shape h4
  obtain ⟨AD, cD, rfl⟩ := RdI.len h5
  have BW := Lib.hid (show Below w.heap.size w (w.alloc (.cells #[.int .i64 m.wd, .int .i64 m.rk, .slice AF m.fr.length cF, .slice AG m.bk.length cG, .slice AC m.cs.length cC, .slice AI m.ls.length cI, .slice AD m.dr.length cD] 34)) from (Below.refl _ _).alloc (Nat.le_refl _) _)
  have hcl : ∀ w1, Below (w.alloc (.cells #[.int .i64 m.wd, .int .i64 m.rk, .slice AF m.fr.length cF, .slice AG m.bk.length cG, .slice AC m.cs.length cC, .slice AI m.ls.length cI, .slice AD m.dr.length cD] 34)).heap.size (w.alloc (.cells #[.int .i64 m.wd, .int .i64 m.rk, .slice AF m.fr.length cF, .slice AG m.bk.length cG, .slice AC m.cs.length cC, .slice AI m.ls.length cI, .slice AD m.dr.length cD] 34)) w1 →
      CellsAt w1 w.heap.size 0 [.int .i64 m.wd, .int .i64 m.rk, .slice AF m.fr.length cF, .slice AG m.bk.length cG, .slice AC m.cs.length cC, .slice AI m.ls.length cI, .slice AD m.dr.length cD] := fun w1 hb => CellsAt.below CellsAt.of_alloc hb (by simp)
  have HA := Lib.hid (loopCode_any _ m k _ (hl0.up BW.out BW.out.size))
  have HI := Lib.hid h4
  have HCL := Lib.hid hcl
  clear h1 h2 h3 h4 h5 h6 hcl hl0
  by_cases ha : askC m k = 0
  case neg =>
    have HN := Lib.hid (show couR m k (.returned (.tuple #[.int .i64 0, .int .i64 (askC m k)])) by simp [couR, coR, ha])
    have e0 : (askC m k != 0) = true := by simpa using ha
    generalize askC m k = A at *
    go_enter Try.func18, Try.ntmps18
    go_wp2_with fail
    refine HA.out.mono ?_
    rintro e w1 ⟨rfl, hb⟩
    have HB := Lib.hid (BW.out.trans (hb.mono BW.out.size))
    clear hb
    go_wp2
    go_ret2
    exact ⟨HN.out, HB.out⟩
  obtain ⟨hok, hk0, hk1⟩ := ask_zero' ha
  have h300 := ls_len hok
  obtain ⟨kn, rfl⟩ := Int.eq_ofNat_of_zero_le hk0
  have hkn : kn < m.ls.length := by omega
  have HAA := Lib.hid ha
  have HOK := Lib.hid hok
  clear ha hok hk0 hk1
  have hmk : ∀ W : World, (Instr.makeSlice 25 (.int .i64 ((kn : Int) + 1)) (.int .i64 ((kn : Int) + 1))).run Try.prog W = .ok (.slice (some ⟨W.heap.size, 0, none⟩) (kn + 1) (kn + 1)) (W.alloc (.cells (madeCells #[.int .i64 0] (kn + 1)) 2)) := fun W => by
    have h := run_make_row' (P := Try.prog) 25 2 (.int .i64 0) 8 Try.underlying25 info_int rfl .i64 .i64 (kn + 1) (by omega) (by omega) W
    rw [show ((kn + 1 : Nat) : Int) = (kn : Int) + 1 by omega] at h
    exact h
  go_enter Try.func18, Try.ntmps18
  go_wp2_with fail
  refine HA.out.mono ?_
  rintro e w1 ⟨rfl, hb⟩
  rw [HAA.out]
  have HB1 := Lib.hid hb
  have hs1 := hb.size
  have HW1 := Lib.hid (BW.out.trans (hb.mono BW.out.size))
  clear hb HA
  go_wp2
  clear hmk
  go_loopw [22] (fun i wr => ∃ (q : Nat) (acc : List Int) (f : Nat → Value), q ≤ kn + 1 ∧ i = .int .i64 q ∧ wr.rowIs w1.heap.size 2 (kn + 1) f ∧ acc.length ≤ q ∧ q ≤ acc.length ∧ Hid (Small acc) ∧ Hid (∀ (j : Nat) (z : Int), acc[j]? = some z → f j = .int .i64 z) ∧ Hid (∀ j, q ≤ j → j < kn + 1 → f j = .int .i64 0) ∧
    Hid (cgo [] m.ls = cgo acc (m.ls.drop q)) ∧ Hid (Below w1.heap.size w1 wr)) (fun i _ => kn + 1 - (intOf i).toNat)
  case atStart => exact ⟨0, [], _, Nat.zero_le _, rfl, World.rowIs_made _ _ _ _, Nat.le_refl _, Nat.le_refl _, fun j z h => by simp at h, fun j z h => by simp at h, fun j _ _ => rfl, rfl, (Below.refl _ _).alloc (Nat.le_refl _) _⟩
  case round =>
    rename_i wr
    obtain ⟨q, acc, f, hq, rfl, hrow, ha1, ha2, hsm, hfa, hf0, hd, hbb⟩ := hrel
    have hbw := HW1.out.trans (hbb.out.mono HW1.out.size)
    obtain ⟨x0, x1, x2, x3, x4, x5, x6⟩ := (HCL.out _ (HB1.out.trans (hbb.out.mono hs1))).seven
    by_cases hlt : q < kn + 1
    · obtain ⟨b, off, x, s, rfl, hb1, hlk, hcc, hs⟩ := (RdIs.below HI.out hbw).at_ (show q < m.ls.length by omega)
      obtain ⟨A1, c1, rfl⟩ := hs.len
      obtain ⟨hps, hp4⟩ := ok_loop HOK.out hlk
      obtain ⟨q0, q1, q2, q3, q4, q5⟩ := hcc.six
      have HPS := Lib.hid hps
      have HS := Lib.hid hs
      have HD := Lib.hid (cgo_next hd.out hlk)
      have HSM := Lib.hid (small_next hsm.out (x := x) (by intro p hp; have := hps p hp; omega))
      have HROW := Lib.hid hrow
      have HF0 := Lib.hid (hf0.out q (Nat.le_refl _) hlt)
      clear hrow hlk hs hcc hps hd
      go_wp2
      go_loopw [32] (fun i wq => ∃ (j : Nat) (z : Int) (f2 : Nat → Value) (W2 : World), W2 = wq ∧ j ≤ x.ps.length ∧ i = .int .i64 j ∧ W2.rowIs w1.heap.size 2 (kn + 1) f2 ∧ Hid (f2 q = .int .i64 z) ∧ Hid (∀ r, r ≠ q → f2 r = f r) ∧ 0 ≤ z ∧ z ≤ q ∧ Hid (cst acc x = (x.ps.drop j).foldl (cmx acc) z) ∧ Hid (Below w1.heap.size w1 W2)) (fun i _ => x.ps.length - (intOf i).toNat)
      case atStart => exact ⟨0, 0, f, _, rfl, Nat.zero_le _, rfl, HROW.out, HF0.out, fun r _ => rfl, by omega, by omega, rfl, hbb.out⟩
      case round =>
        obtain ⟨j, z, f2, W2, hwe, hj, rfl, hrow2, hfq, hfr, z0, z1, hf, hb2⟩ := hrel
        subst hwe
        have hbw2 := HW1.out.trans (hb2.out.mono HW1.out.size)
        by_cases hlt2 : j < x.ps.length
        · obtain ⟨b2, o2, p, rfl, hbb2, hpk, hpc⟩ := (HS.out.keep (fun p hp => (hbw2.cell hp).trans (hbw.cell hp).symm)).at_ hlt2
          obtain ⟨p0, p1⟩ := HPS.out p (List.mem_of_getElem? hpk)
          obtain ⟨pn, rfl⟩ := Int.eq_ofNat_of_zero_le p0
          have hpn : pn < acc.length := by omega
          obtain ⟨y, hyk⟩ : ∃ y, acc[pn]? = some y := ⟨_, List.getElem?_eq_getElem hpn⟩
          obtain ⟨y0, y1⟩ := hsm.out pn y hyk
          have cq := hrow2.cell (i := q) hlt
          rw [hfq.out] at cq
          have cp := hrow2.cell (i := pn) (by omega)
          rw [hfr.out pn (by omega), hfa.out pn y hyk] at cp
          have fz := fun i => hrow2.frozen i
          have HF := Lib.hid (show cst acc x = (x.ps.drop (j + 1)).foldl (cmx acc) (max z (y + 1)) by
            rw [hf.out, drop_of_get hpk, List.foldl_cons]
            congr 1
            unfold cmx
            rw [show ((pn : Int)).toNat = pn by omega, List.getD_eq_getElem?_getD, hyk]
            rfl)
          have HR2 := Lib.hid (show (W2.drew).rowIs w1.heap.size 2 (kn + 1) f2 from hrow2)
          have HBD := Lib.hid hb2.out.drew
          obtain ⟨y0', y1', y2', y3', y4', y5', y6'⟩ := (HCL.out _ (HB1.out.trans (hb2.out.mono hs1))).seven
          clear hpk hf hrow2 x0 x1 x2 x3 x4 x5 x6
          go_wp2
          go_region
          all_goals
            go_wp2
            exact ⟨⟨j + 1, max z (y + 1), _, _, rfl, by omega, by go_num, HR2.out.set _ _, by unfold Hid; simp; omega, fun r hr => by simp [hr, hfr.out r hr], by omega, by omega, HF.out, HBD.out.setCell (Nat.le_refl _) _⟩, by simp [intOf]; omega⟩
        · have HZ := Lib.hid (show cst acc x = z by rw [hf.out, List.drop_of_length_le (by omega)]; rfl)
          have HR2 := Lib.hid hrow2
          clear hf hrow2
          go_wp2
          refine ⟨⟨q + 1, acc ++ [cst acc x], f2, by omega, by go_num, HR2.out, by simp; omega, by simp; omega, HSM.out, fun j' z' h => ?_, fun j' h h' => ?_, HD.out, hb2.out⟩, by simp [intOf]; omega⟩
          · by_cases hj' : j' < acc.length
            · rw [List.getElem?_append_left hj'] at h
              rw [hfr.out j' (by omega)]
              exact hfa.out j' z' h
            · rw [List.getElem?_append_right (by omega)] at h
              have hj2 : j' = q := by
                have := (List.getElem?_eq_some_iff.1 h).1
                simp at this
                omega
              subst hj2
              rw [show j' - acc.length = 0 by omega] at h
              simp at h
              rw [hfq.out, ← h, HZ.out]
          · rw [hfr.out j' (by omega)]
            exact hf0.out j' (by omega) h'
    · obtain ⟨y, hyk⟩ : ∃ y, acc[kn]? = some y := ⟨_, List.getElem?_eq_getElem (by omega)⟩
      have cq := hrow.cell (i := kn) (by omega)
      rw [hfa.out kn y hyk] at cq
      have HR := Lib.hid (show couR m (kn : Int) (.returned (.tuple #[.int .i64 y, .int .i64 0])) by
        unfold couR coR
        rw [if_pos HAA.out, HAA.out, show ((kn : Int)).toNat = kn by omega, hd.out, cgo_at (by omega), List.getD_eq_getElem?_getD, hyk]
        rfl)
      have HBW := Lib.hid hbw
      clear hyk hrow hd hbw x0 x1 x2 x3 x4 x5 x6
      go_wp2
      go_ret2
      exact ⟨HR.out, HBW.out⟩

end Go.Proofs.Ytghjnkdomjhflaa
