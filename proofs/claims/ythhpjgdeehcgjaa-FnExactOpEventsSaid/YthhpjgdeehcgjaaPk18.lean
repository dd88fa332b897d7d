/-
  Texts joined: Ope, Opf, OpenOp.
-/
import Derived.Test.YthhpjgdeehcgjaaPk13
import Derived.Test.YthhpjgdeehcgjaaPk15
import Derived.Test.YthhpjgdeehcgjaaPk14
import Derived.Test.YthhpjgdeehcgjaaMcValid
import Derived.Test.YthhpjgdeehcgjaaPk16
import Derived.Test.YthhpjgdeehcgjaaPk17
import Derived.Test.YthhpjgdeehcgjaaPk8
import Derived.Test.YthhpjgdeehcgjaaNest
/-
  OpEvents, of the program and of the reference.
-/
namespace Go.Proofs.Ythhpjgdeehcgjaa
set_option linter.unusedVariables false
set_option linter.unusedSimpArgs false
open Go.RowKit

/-- The code of OpEvents, and its events. -/
def oeC (m : Mc) (x : Opr) : Int := if okM m = false then 1 else if okOpW m.wd x = false then 1 else doCode m x
def oeR (m : Mc) (x : Opr) : List Ev := if oeC m x = 0 then evD m x else []
theorem oeC_0 {m : Mc} {x : Opr} (h : okM m = false) : oeC m x = 1 := by unfold oeC; rw [if_pos h]
theorem oeC_1 {m : Mc} {x : Opr} (h : okOpW m.wd x = false) : oeC m x = 1 := by unfold oeC; split; rfl; rfl
theorem oeC_2 {m : Mc} {x : Opr} (h : okM m = true) (h1 : okOpW m.wd x = true) : oeC m x = doCode m x := by unfold oeC; rw [if_neg (by rw [h]; decide), if_neg (by rw [h1]; decide)]
theorem oeR_no {m : Mc} {x : Opr} (h : oeC m x ≠ 0) : oeR m x = [] := by unfold oeR; rw [if_neg h]
theorem oeR_yes {m : Mc} {x : Opr} (h : oeC m x = 0) : oeR m x = evD m x := by unfold oeR; rw [if_pos h]

set_option maxHeartbeats 8000000 in
set_option maxRecDepth 100000 in
theorem implOpEvents_any (v : Value) (m : Mc) (x : Opr) (w : World) (hl : RdM w w.heap.size v m) (hf : FitM m) : Calls Try.prog 9 #[v, x.v] w (GivesC w 80 6 (oeR m x).length (vE (oeR m x)) (oeC m x)) := by
  have hl0 := hl
  obtain ⟨f, b, cs, ls, d, rfl, h1, h2, h3, h4, h5, h6⟩ := hl
  obtain ⟨AF, cF, rfl⟩ := RdN.shape h1
  obtain ⟨AG, cG, rfl⟩ := RdN.shape h2
  obtain ⟨AC, cC, rfl⟩ := RdS.lens h3
  obtain ⟨AI, cI, rfl⟩ := RdN.shape h4
  obtain ⟨AD, cD, rfl⟩ := RdI.len h5
  have BW := Lib.hid (show Below w.heap.size w (w.alloc (.cells #[.int .i64 m.wd, .int .i64 m.rk, .slice AF m.fr.length cF, .slice AG m.bk.length cG, .slice AC m.cs.length cC, .slice AI m.ls.length cI, .slice AD m.dr.length cD] 39)) from (Below.refl _ _).alloc (Nat.le_refl _) _)
  have HP := Lib.hid (RdP.box (T := 39) h1 h2 h3 h4 h5 h6)
  have HM := Lib.hid (hl0.up BW.out BW.out.size)
  clear h1 h2 h3 h4 h5 h6 hl0
  have hbA := (Below.refl (w.alloc (.cells (mcV m.wd m.rk (.slice AF m.fr.length cF) (.slice AG m.bk.length cG) (.slice AC m.cs.length cC) (.slice AI m.ls.length cI) (.slice AD m.dr.length cD)) 39)).heap.size (w.alloc (.cells (mcV m.wd m.rk (.slice AF m.fr.length cF) (.slice AG m.bk.length cG) (.slice AC m.cs.length cC) (.slice AI m.ls.length cI) (.slice AD m.dr.length cD)) 39))).alloc (Nat.le_refl _) (.cells #[.int .i64 x.k, .int .i64 x.d, .int .i64 x.fb, .int .i64 x.fa, .int .i64 x.tb, .int .i64 x.ta, .int .i64 x.c, .int .i64 x.r] 43)
  have ho0 := Bx.new (w.alloc (.cells (mcV m.wd m.rk (.slice AF m.fr.length cF) (.slice AG m.bk.length cG) (.slice AC m.cs.length cC) (.slice AI m.ls.length cI) (.slice AD m.dr.length cD)) 39)) [.int .i64 x.k, .int .i64 x.d, .int .i64 x.fb, .int .i64 x.fa, .int .i64 x.tb, .int .i64 x.ta, .int .i64 x.c, .int .i64 x.r] 43
  rw [World.size_alloc] at ho0
  have HO0 := Lib.hid ho0
  have hx0 : CellsAt (w.alloc (.cells (mcV m.wd m.rk (.slice AF m.fr.length cF) (.slice AG m.bk.length cG) (.slice AC m.cs.length cC) (.slice AI m.ls.length cI) (.slice AD m.dr.length cD)) 39)) w.heap.size 0 (mcV m.wd m.rk (.slice AF m.fr.length cF) (.slice AG m.bk.length cG) (.slice AC m.cs.length cC) (.slice AI m.ls.length cI) (.slice AD m.dr.length cD)).toList := CellsAt.of_alloc
  have HX0 := Lib.hid (hx0.below hbA (by simp))
  have HP2 := Lib.hid (HP.out.below hbA)
  have HM2 := Lib.hid (HM.out.up hbA hbA.size)
  have HB2 := Lib.hid (BW.out.trans (hbA.mono BW.out.size))
  have HCC := Lib.hid (fun h => oeC_0 (m := m) (x := x) h)
  have HCW := Lib.hid (fun h => oeC_1 (m := m) (x := x) h)
  have HCO := Lib.hid (fun h h1 => oeC_2 (m := m) (x := x) h h1)
  have HRN := Lib.hid (fun h => oeR_no (m := m) (x := x) h)
  have HRY := Lib.hid (fun h => oeR_yes (m := m) (x := x) h)
  generalize oeC m x = cc at *
  generalize oeR m x = L at *
  clear ho0 hbA hf HP HM BW hx0
  cases hok : okM m
  · have hc := HCC.out hok
    have hL := HRN.out (by rw [hc]; decide)
    subst hc hL
    have HK := Lib.hid hok
    clear hok HCC HCW HCO HRN HRY
    go_enter Try.func9, Try.ntmps9
    go_wp2_with fail
    refine (validMachine_any _ m _ HM2.out).mono ?_
    rintro e w2 ⟨rfl, hb⟩
    rw [HK.out]
    have HB3 := Lib.hid (HB2.out.trans (hb.mono HB2.out.size))
    clear hb
    go_wp2
    refine bodyPost_ret (v := .tuple #[.slice none 0 0, .int .i64 1]) (by simp [results, Try.results9, go_sem]) rfl ?_
    exact ⟨_, rfl, OwC.nil, HB3.out⟩
  have HK := Lib.hid hok
  clear hok HCC
  cases hop : okOp x
  · have hc := HCW.out (by unfold okOpW; rw [hop]; rfl)
    have hL := HRN.out (by rw [hc]; decide)
    subst hc hL
    have HOP := Lib.hid hop
    clear hop HCW HCO HRN HRY
    go_enter Try.func9, Try.ntmps9
    go_wp2_with fail
    generalize (w.alloc (.cells (mcV m.wd m.rk (.slice AF m.fr.length cF) (.slice AG m.bk.length cG) (.slice AC m.cs.length cC) (.slice AI m.ls.length cI) (.slice AD m.dr.length cD)) 39)).alloc (.cells #[.int .i64 x.k, .int .i64 x.d, .int .i64 x.fb, .int .i64 x.fa, .int .i64 x.tb, .int .i64 x.ta, .int .i64 x.c, .int .i64 x.r] 43) = W1 at *
    refine (validMachine_any _ m _ HM2.out).mono ?_
    rintro e w2 ⟨rfl, hb⟩
    rw [HK.out]
    have HB3 := Lib.hid (HB2.out.trans (hb.mono HB2.out.size))
    obtain ⟨o0, o1, o2, o3, o4, o5, o6, o7⟩ := (HO0.out.below hb HO0.out.2.2).eight
    clear hb
    go_wp2_with fail
    refine (validOp_any x _).mono ?_
    rintro e w3 ⟨rfl, hb⟩
    rw [HOP.out]
    have HB4 := Lib.hid (HB3.out.trans (hb.mono HB3.out.size))
    clear hb o0 o1 o2 o3 o4 o5 o6 o7
    go_wp2
    refine bodyPost_ret (v := .tuple #[.slice none 0 0, .int .i64 1]) (by simp [results, Try.results9, go_sem]) rfl ?_
    exact ⟨_, rfl, OwC.nil, HB4.out⟩
  have HOP := Lib.hid hop
  have HCODE : Hid (∀ (W : World), RdP W w.heap.size m → Calls Try.prog 37 #[.pointer (some ⟨w.heap.size, 0, none⟩), x.v] W fun e w' => e = .returned (.int .i64 cc) ∧ Below W.heap.size W w') := fun W hW => by
    cases hw : okOpW m.wd x
    · have h1 := HCW.out hw
      rw [h1]
      have h2 : m.wd ≤ x.fa ∨ m.wd ≤ x.ta := by
        unfold okOpW at hw
        rw [hop] at hw
        simp at hw
        by_cases h3 : x.fa < m.wd
        · exact .inr (hw h3)
        · exact .inl (by omega)
      exact opCode_no m _ W hW x.k x.d x.fb x.fa x.tb x.ta x.c x.r h2
    · rw [HCO.out HK.out hw]
      exact opCode_any m _ W hW HK.out x hw
  have HEV : Hid (cc = 0 → ∀ (W : World), RdP W w.heap.size m → Calls Try.prog 38 #[.pointer (some ⟨w.heap.size, 0, none⟩), x.v] W (GivesOw W 80 6 L.length (vE L))) := fun h0 W hW => by
    cases hw : okOpW m.wd x
    · have h1 := HCW.out hw
      omega
    · rw [HRY.out h0]
      exact opEvents_any m _ W hW HK.out x hw
  have HN := Lib.hid (fun h => HRN.out h)
  clear hop HCW HCO HRN HRY
  go_enter Try.func9, Try.ntmps9
  go_wp2_with fail
  generalize (w.alloc (.cells (mcV m.wd m.rk (.slice AF m.fr.length cF) (.slice AG m.bk.length cG) (.slice AC m.cs.length cC) (.slice AI m.ls.length cI) (.slice AD m.dr.length cD)) 39)).alloc (.cells #[.int .i64 x.k, .int .i64 x.d, .int .i64 x.fb, .int .i64 x.fa, .int .i64 x.tb, .int .i64 x.ta, .int .i64 x.c, .int .i64 x.r] 43) = W1 at *
  refine (validMachine_any _ m _ HM2.out).mono ?_
  rintro e w2 ⟨rfl, hb⟩
  rw [HK.out]
  have HB3 := Lib.hid (HB2.out.trans (hb.mono HB2.out.size))
  have HO3 := Lib.hid (HO0.out.below hb HO0.out.2.2)
  have HP3 := Lib.hid (HP2.out.below hb)
  clear hb HB2 HO0 HP2 HM2 HX0
  obtain ⟨o0, o1, o2, o3, o4, o5, o6, o7⟩ := HO3.out.eight
  go_wp2_with fail
  refine (validOp_any x _).mono ?_
  rintro e w3 ⟨rfl, hb⟩
  rw [HOP.out]
  have HB4 := Lib.hid (HB3.out.trans (hb.mono HB3.out.size))
  have HO4 := Lib.hid (HO3.out.below hb HO3.out.2.2)
  have HP4 := Lib.hid (HP3.out.below hb)
  clear hb HB3 HO3 HP3 o0 o1 o2 o3 o4 o5 o6 o7
  obtain ⟨o0, o1, o2, o3, o4, o5, o6, o7⟩ := HO4.out.eight
  go_wp2_with fail
  refine (HCODE.out _ HP4.out).mono ?_
  rintro e w4 ⟨rfl, hb⟩
  have HB5 := Lib.hid (HB4.out.trans (hb.mono HB4.out.size))
  have HO5 := Lib.hid (HO4.out.below hb HO4.out.2.2)
  have HP5 := Lib.hid (HP4.out.below hb)
  clear hb HB4 HO4 HP4 o0 o1 o2 o3 o4 o5 o6 o7
  by_cases h0 : cc = 0
  · have HE := Lib.hid (HEV.out h0)
    subst h0
    clear HEV HCODE HN
    obtain ⟨o0, o1, o2, o3, o4, o5, o6, o7⟩ := HO5.out.eight
    go_wp2_with fail
    refine (HE.out _ HP5.out).mono ?_
    rintro e w5 ⟨v5, rfl, ho5, hb⟩
    have HFIN : Hid (GivesC w 80 6 L.length (vE L) 0 (.returned (.tuple #[v5, .int .i64 0])) w5) := ⟨v5, rfl, ho5.wide HB5.out.size (Nat.le_refl _), HB5.out.trans (hb.mono HB5.out.size)⟩
    clear ho5 hb
    go_wp2
    refine bodyPost_ret (v := .tuple #[v5, .int .i64 0]) (by simp [results, Try.results9, go_sem]) rfl ?_
    exact HFIN.out
  · have hc0 : (cc != 0) = true := by simpa using h0
    have hL := HN.out h0
    subst hL
    clear h0 HEV HCODE HN
    go_wp2
    refine bodyPost_ret (v := .tuple #[.slice none 0 0, .int .i64 cc]) (by simp [results, Try.results9, go_sem]) rfl ?_
    exact ⟨_, rfl, OwC.nil, HB5.out⟩

end Go.Proofs.Ythhpjgdeehcgjaa

/-
  OpEvents of the reference.
-/
namespace Go.Proofs.Ythhpjgdeehcgjaa
set_option linter.unusedVariables false
set_option linter.unusedSimpArgs false
open Go.RowKit

set_option maxHeartbeats 8000000 in
set_option maxRecDepth 100000 in
theorem specOpEvents_any (v : Value) (m : Mc) (x : Opr) (w : World) (hl : RdM w w.heap.size v m) (hf : FitM m) : Calls Try.prog 6 #[v, x.v] w (GivesC w 80 6 (oeR m x).length (vE (oeR m x)) (oeC m x)) := by
  have hdr := hf.dr
  have hl0 := hl
  obtain ⟨f, b, cs, ls, d, rfl, h1, h2, h3, h4, h5, h6⟩ := hl
  obtain ⟨AF, cF, rfl⟩ := RdN.shape h1
  obtain ⟨AG, cG, rfl⟩ := RdN.shape h2
  obtain ⟨AC, cC, rfl⟩ := RdS.lens h3
  obtain ⟨AI, cI, rfl⟩ := RdN.shape h4
  obtain ⟨AD, cD, rfl⟩ := RdI.len h5
  have BW := Lib.hid (show Below w.heap.size w (w.alloc (.cells #[.int .i64 m.wd, .int .i64 m.rk, .slice AF m.fr.length cF, .slice AG m.bk.length cG, .slice AC m.cs.length cC, .slice AI m.ls.length cI, .slice AD m.dr.length cD] 39)) from (Below.refl _ _).alloc (Nat.le_refl _) _)
  have HP := Lib.hid (RdP.box (T := 39) h1 h2 h3 h4 h5 h6)
  have HM := Lib.hid (hl0.up BW.out BW.out.size)
  clear h1 h2 h3 h4 h5 h6 hl0
  have hbA := (Below.refl (w.alloc (.cells (mcV m.wd m.rk (.slice AF m.fr.length cF) (.slice AG m.bk.length cG) (.slice AC m.cs.length cC) (.slice AI m.ls.length cI) (.slice AD m.dr.length cD)) 39)).heap.size (w.alloc (.cells (mcV m.wd m.rk (.slice AF m.fr.length cF) (.slice AG m.bk.length cG) (.slice AC m.cs.length cC) (.slice AI m.ls.length cI) (.slice AD m.dr.length cD)) 39))).alloc (Nat.le_refl _) (.cells #[.int .i64 x.k, .int .i64 x.d, .int .i64 x.fb, .int .i64 x.fa, .int .i64 x.tb, .int .i64 x.ta, .int .i64 x.c, .int .i64 x.r] 43)
  have ho0 := Bx.new (w.alloc (.cells (mcV m.wd m.rk (.slice AF m.fr.length cF) (.slice AG m.bk.length cG) (.slice AC m.cs.length cC) (.slice AI m.ls.length cI) (.slice AD m.dr.length cD)) 39)) [.int .i64 x.k, .int .i64 x.d, .int .i64 x.fb, .int .i64 x.fa, .int .i64 x.tb, .int .i64 x.ta, .int .i64 x.c, .int .i64 x.r] 43
  rw [World.size_alloc] at ho0
  have HO0 := Lib.hid ho0
  have hx0 : CellsAt (w.alloc (.cells (mcV m.wd m.rk (.slice AF m.fr.length cF) (.slice AG m.bk.length cG) (.slice AC m.cs.length cC) (.slice AI m.ls.length cI) (.slice AD m.dr.length cD)) 39)) w.heap.size 0 (mcV m.wd m.rk (.slice AF m.fr.length cF) (.slice AG m.bk.length cG) (.slice AC m.cs.length cC) (.slice AI m.ls.length cI) (.slice AD m.dr.length cD)).toList := CellsAt.of_alloc
  have HX0 := Lib.hid (hx0.below hbA (by simp))
  have HP2 := Lib.hid (HP.out.below hbA)
  have HB2 := Lib.hid (BW.out.trans (hbA.mono BW.out.size))
  have HCC := Lib.hid (fun h => oeC_0 (m := m) (x := x) h)
  have HCW := Lib.hid (fun h => oeC_1 (m := m) (x := x) h)
  have HCO := Lib.hid (fun h h1 => oeC_2 (m := m) (x := x) h h1)
  have HRN := Lib.hid (fun h => oeR_no (m := m) (x := x) h)
  have HRY := Lib.hid (fun h => oeR_yes (m := m) (x := x) h)
  generalize oeC m x = cc at *
  generalize oeR m x = L at *
  clear ho0 hbA hf HP HM BW hx0
  cases hok : okM m
  · have hc := HCC.out hok
    have hL := HRN.out (by rw [hc]; decide)
    subst hc hL
    have HK := Lib.hid hok
    clear hok HCC HCW HCO HRN HRY
    go_enter Try.func6, Try.ntmps6
    go_wp2_with fail
    refine (l07Ok_p m _ _ HP2.out hdr).mono ?_
    rintro e w2 ⟨rfl, hb⟩
    rw [HK.out]
    have HB3 := Lib.hid (HB2.out.trans (hb.mono HB2.out.size))
    clear hb
    go_wp2
    refine bodyPost_ret (v := .tuple #[.slice none 0 0, .int .i64 1]) (by simp [results, Try.results6, go_sem]) rfl ?_
    exact ⟨_, rfl, OwC.nil, HB3.out⟩
  have hokt := hok
  have HK := Lib.hid hok
  clear hok HCC
  cases hop : okOp x
  · have hc := HCW.out (by unfold okOpW; rw [hop]; rfl)
    have hL := HRN.out (by rw [hc]; decide)
    subst hc hL
    have HOP := Lib.hid hop
    clear hop HCW HCO HRN HRY hokt
    go_enter Try.func6, Try.ntmps6
    go_wp2_with fail
    generalize (w.alloc (.cells (mcV m.wd m.rk (.slice AF m.fr.length cF) (.slice AG m.bk.length cG) (.slice AC m.cs.length cC) (.slice AI m.ls.length cI) (.slice AD m.dr.length cD)) 39)).alloc (.cells #[.int .i64 x.k, .int .i64 x.d, .int .i64 x.fb, .int .i64 x.fa, .int .i64 x.tb, .int .i64 x.ta, .int .i64 x.c, .int .i64 x.r] 43) = W1 at *
    refine (l07Ok_p m _ _ HP2.out hdr).mono ?_
    rintro e w2 ⟨rfl, hb⟩
    rw [HK.out]
    have HB3 := Lib.hid (HB2.out.trans (hb.mono HB2.out.size))
    have HO3 := Lib.hid (HO0.out.below hb HO0.out.2.2)
    clear hb
    go_wp2_with fail
    refine (l07Op_any x _ _ w2 (show CellsAt w2 (w.heap.size + 1) 0 x.cells from HO3.out.1)).mono ?_
    rintro e w3 ⟨rfl, hb⟩
    rw [HOP.out]
    have HB4 := Lib.hid (HB3.out.trans (hb.mono HB3.out.size))
    clear hb
    go_wp2
    refine bodyPost_ret (v := .tuple #[.slice none 0 0, .int .i64 1]) (by simp [results, Try.results6, go_sem]) rfl ?_
    exact ⟨_, rfl, OwC.nil, HB4.out⟩
  have HOP := Lib.hid hop
  cases hfit : (decide (x.fa < m.wd) && decide (x.ta < m.wd))
  · have hc := HCW.out (by unfold okOpW; rw [hop, hfit]; rfl)
    have hL := HRN.out (by rw [hc]; decide)
    subst hc hL
    have HFT := Lib.hid hfit
    clear hop hfit HCW HCO HRN HRY hokt
    go_enter Try.func6, Try.ntmps6
    go_wp2_with fail
    generalize (w.alloc (.cells (mcV m.wd m.rk (.slice AF m.fr.length cF) (.slice AG m.bk.length cG) (.slice AC m.cs.length cC) (.slice AI m.ls.length cI) (.slice AD m.dr.length cD)) 39)).alloc (.cells #[.int .i64 x.k, .int .i64 x.d, .int .i64 x.fb, .int .i64 x.fa, .int .i64 x.tb, .int .i64 x.ta, .int .i64 x.c, .int .i64 x.r] 43) = W1 at *
    refine (l07Ok_p m _ _ HP2.out hdr).mono ?_
    rintro e w2 ⟨rfl, hb⟩
    rw [HK.out]
    have HB3 := Lib.hid (HB2.out.trans (hb.mono HB2.out.size))
    have HO3 := Lib.hid (HO0.out.below hb HO0.out.2.2)
    have HX3 := Lib.hid (HX0.out.below hb (by have := HO0.out.2.2; omega))
    clear hb
    go_wp2_with fail
    refine (l07Op_any x _ _ w2 (show CellsAt w2 (w.heap.size + 1) 0 x.cells from HO3.out.1)).mono ?_
    rintro e w3 ⟨rfl, hb⟩
    rw [HOP.out]
    have HB4 := Lib.hid (HB3.out.trans (hb.mono HB3.out.size))
    have HO4 := Lib.hid (HO3.out.below hb HO3.out.2.2)
    have HX4 := Lib.hid (HX3.out.below hb (by have := HO3.out.2.2; omega))
    clear hb
    obtain ⟨y0, y1, y2, y3, y4, y5, y6⟩ := CellsAt.seven HX4.out
    go_wp2_with fail
    refine (l07Fits_any x m.wd _ _ w3 (show CellsAt w3 (w.heap.size + 1) 0 x.cells from HO4.out.1)).mono ?_
    rintro e w4 ⟨rfl, rfl⟩
    rw [HFT.out]
    clear y0 y1 y2 y3 y4 y5 y6
    go_wp2
    refine bodyPost_ret (v := .tuple #[.slice none 0 0, .int .i64 1]) (by simp [results, Try.results6, go_sem]) rfl ?_
    exact ⟨_, rfl, OwC.nil, HB4.out⟩
  have hopw : okOpW m.wd x = true := by unfold okOpW; rw [hop, hfit]; rfl
  have HOPW := Lib.hid hopw
  have HFT := Lib.hid hfit
  have hce : evO m x = L := by
    have h1 := HCO.out HK.out hopw
    by_cases h0 : doCode m x = 0
    · rw [evO_ok h0, HRY.out (h1.trans h0)]
    · rw [HRN.out (by rw [h1]; exact h0)]
      unfold evO
      rw [if_neg h0]
  have hcc : doCode m x = cc := (HCO.out HK.out hopw).symm
  have HDO : Hid (∀ (W : World) (B g : Nat) (S : Nat → Spot) (b o : Nat), MSt W B g m S → B ≤ W.heap.size → OpAt W b o x → ¬ blk S b → Calls Try.prog 29 #[.pointer (some ⟨g, 0, none⟩), .pointer (some ⟨b, o, none⟩)] W (DidE W S B g cc L (doTo m x))) := fun W B g S b o h1 h2 h3 h4 => by
    have := l10Do_any h1 h2 x b o h3 h4 HK.out hopw
    rw [hce, hcc] at this
    exact this
  clear hop hfit HCW HCO HRN HRY hopw hce hcc
  go_enter Try.func6, Try.ntmps6
  go_wp2_with fail
  generalize (w.alloc (.cells (mcV m.wd m.rk (.slice AF m.fr.length cF) (.slice AG m.bk.length cG) (.slice AC m.cs.length cC) (.slice AI m.ls.length cI) (.slice AD m.dr.length cD)) 39)).alloc (.cells #[.int .i64 x.k, .int .i64 x.d, .int .i64 x.fb, .int .i64 x.fa, .int .i64 x.tb, .int .i64 x.ta, .int .i64 x.c, .int .i64 x.r] 43) = W1 at *
  refine (l07Ok_p m _ _ HP2.out hdr).mono ?_
  rintro e w2 ⟨rfl, hb⟩
  rw [HK.out]
  have HB3 := Lib.hid (HB2.out.trans (hb.mono HB2.out.size))
  have HP3 := Lib.hid (HP2.out.below hb)
  have HO3 := Lib.hid (HO0.out.below hb HO0.out.2.2)
  have HX3 := Lib.hid (HX0.out.below hb (by have := HO0.out.2.2; omega))
  clear hb
  go_wp2_with fail
  refine (l07Op_any x _ _ w2 (show CellsAt w2 (w.heap.size + 1) 0 x.cells from HO3.out.1)).mono ?_
  rintro e w3 ⟨rfl, hb⟩
  rw [HOP.out]
  have HB4 := Lib.hid (HB3.out.trans (hb.mono HB3.out.size))
  have HP4 := Lib.hid (HP3.out.below hb)
  have HO4 := Lib.hid (HO3.out.below hb HO3.out.2.2)
  have HX4 := Lib.hid (HX3.out.below hb (by have := HO3.out.2.2; omega))
  have hlt4 : w.heap.size + 1 < w3.heap.size := HO4.out.2.2
  clear hb HB2 HP2 HO0 HX0 HB3 HP3 HO3 HX3
  obtain ⟨y0, y1, y2, y3, y4, y5, y6⟩ := CellsAt.seven HX4.out
  go_wp2_with fail
  refine (l07Fits_any x m.wd _ _ w3 (show CellsAt w3 (w.heap.size + 1) 0 x.cells from HO4.out.1)).mono ?_
  rintro e w4 ⟨rfl, rfl⟩
  rw [HFT.out]
  clear y0 y1 y2 y3 y4 y5 y6
  go_wp2_with fail
  refine (l07Own_any m w.heap.size w3 HP4.out hokt).mono ?_
  rintro e w5 ⟨S0, g0, rfl, hM0, hB0⟩
  have hz3 : w3.heap.size ≤ w5.heap.size := hB0.size
  obtain ⟨S1, hM1, hS1, -⟩ := hM0.rebox hz3
  obtain ⟨A1, c1, A2, c2, A3, c3, A4, c4, A5, c5, q1, q2, q3, q4, q5⟩ := hM0.slices
  rw [q1, q2, q3, q4, q5] at hM1
  rw [q1, q2, q3, q4, q5]
  have M1 := Lib.hid hM1
  have hB0' := hB0.alloc hz3 (.cells (mcV m.wd m.rk (.slice A1 m.fr.length c1) (.slice A2 m.bk.length c2) (.slice A3 m.cs.length c3) (.slice A4 m.ls.length c4) (.slice A5 m.dr.length c5)) 39)
  have B0 := Lib.hid hB0'
  have HO5 := HO4.out.below hB0' (by omega)
  have HQ := Lib.hid (HDO.out _ _ _ _ (w.heap.size + 1) 0 hM1 (show w3.heap.size ≤ _ by simp; omega) HO5.1 (hM1.not_blk (by omega)))
  clear hM1 hM0 hB0 q1 q2 q3 q4 q5 hS1 hokt hdr hB0' HO5
  go_wp2_with fail
  refine (HQ.out).mono ?_
  rintro e w6 ⟨v6, S2, rfl, hown, hv2, -, -⟩
  have hb4 := hv2.below M1.out.sp (show w3.heap.size ≤ _ by simp; omega)
  have HFIN : Hid (GivesC w 80 6 L.length (vE L) cc (.returned (.tuple #[v6, .int .i64 cc])) w6) := ⟨v6, rfl, (OwC.of_own hown).wide (by have := HB4.out.size; simp; omega) (Nat.le_refl _), HB4.out.trans ((B0.out.trans hb4).mono HB4.out.size)⟩
  clear hv2 hb4 HQ B0 M1 hown
  go_wp2
  refine bodyPost_ret (v := .tuple #[v6, .int .i64 cc]) (by simp [results, Try.results6, go_sem]) rfl ?_
  exact HFIN.out

end Go.Proofs.Ythhpjgdeehcgjaa

/-
  An operation as an argument; how many events an operation has.
-/
namespace Go.Proofs.Ythhpjgdeehcgjaa
set_option linter.unusedVariables false
set_option linter.unusedSimpArgs false
open Go.ChangeShapes Go.WideShapes Go.ChangeAt Go.RowKit

theorem rkUp_len : ∀ (f : Nat) (m : Mc), okM m = true → m.rk + (f : Int) ≤ 3 → (rkUp f m).length ≤ 384 * f
  | 0, m, _, _ => by simp [rkUp]
  | f + 1, m, ok, h => by
    obtain ⟨-, -, d3, d4, -⟩ := ok_wd ok
    have h1 := rkS_len ok true
    have h2 := rkUp_len f (rkM m (m.rk + 1)) (okM_rk ok (by omega) (by omega)) (by show m.rk + 1 + (f : Int) ≤ 3; omega)
    rw [rkUp, List.length_append]
    omega
theorem rkDn_len : ∀ (f : Nat) (m : Mc), okM m = true → -3 ≤ m.rk - (f : Int) → (rkDn f m).length ≤ 384 * f
  | 0, m, _, _ => by simp [rkDn]
  | f + 1, m, ok, h => by
    obtain ⟨-, -, d3, d4, -⟩ := ok_wd ok
    have h1 := rkS_len ok false
    have h2 := rkDn_len f (rkM m (m.rk - 1)) (okM_rk ok (by omega) (by omega)) (by show -3 ≤ m.rk - 1 - (f : Int); omega)
    rw [rkDn, List.length_append]
    omega
theorem rkAll_len {m : Mc} {r : Int} (ok : okM m = true) (h0 : -3 ≤ r) (h1 : r ≤ 3) : (rkAll m r).length ≤ 2304 := by
  obtain ⟨-, -, d3, d4, -⟩ := ok_wd ok
  unfold rkAll
  split
  · have := rkUp_len (r - m.rk).toNat m ok (by omega)
    omega
  · have := rkDn_len (m.rk - r).toNat m ok (by omega)
    omega
theorem evD_len {m : Mc} {x : Opr} (ok : okM m = true) (hx : okOpW m.wd x = true) : (evD m x).length ≤ 2304 := by
  unfold evD
  repeat' split
  all_goals first | (simp; done) | skip
  rename_i h7
  have hx := (okOpW_iff.1 hx).1
  have hr : -3 ≤ x.r ∧ x.r ≤ 3 := by
    rcases okOp_kinds hx with h | h | h | h | h | h | h <;> omega
  unfold crEs
  rw [List.length_map]
  exact rkAll_len ok hr.1 hr.2
theorem oeR_len {m : Mc} (_ : FitM m) (x : Opr) : (oeR m x).length ≤ 1048576 := by
  by_cases h : oeC m x = 0
  · rw [oeR_yes h]
    cases ok : okM m
    · rw [oeC_0 ok] at h; omega
    · cases hx : okOpW m.wd x
      · rw [oeC_1 hx] at h; omega
      · have := evD_len ok hx; omega
  · rw [oeR_no h]; simp

section
variable {H : Type} {enc : TypeId × Value → H} {W : World}
set_option maxRecDepth 100000 in
theorem open_op {base : Nat} {d : DataW H} {p : List MemPlace} {v : Value} (ho : Value.okWide Try.prog W .any base 31 v)
    (h : DataW.Trod enc Try.prog W 0 (fun _ => true) true 31 v d p) : ∃ x : Opr, v = x.v := by
  obtain ⟨cs, rfl, hs⟩ := okWide_struct Try.underlying31 ho
  obtain ⟨fuel, hf⟩ := h
  have h : DataW.trod enc Try.prog W 0 (fun _ => true) true fuel 31 cs.toList = some (d, p) := hf
  have hs8 : cs.size = 8 := hs
  obtain ⟨cl⟩ := cs
  simp only [List.size_toArray] at hs8
  clear hf hs
  obtain ⟨q0, z0, t0⟩ := opens_fld (j := 0) (sz := 1) Try.underlying31 rfl (by kernel_rfl) h
  obtain ⟨q1, z1, t1⟩ := opens_fld (j := 1) (sz := 1) Try.underlying31 rfl (by kernel_rfl) h
  obtain ⟨q2, z2, t2⟩ := opens_fld (j := 2) (sz := 2) Try.underlying31 rfl (by kernel_rfl) h
  obtain ⟨q3, z3, t3⟩ := opens_fld (j := 3) (sz := 2) Try.underlying31 rfl (by kernel_rfl) h
  obtain ⟨q4, z4, t4⟩ := opens_fld (j := 4) (sz := 1) Try.underlying31 rfl (by kernel_rfl) h
  obtain ⟨q5, z5, t5⟩ := opens_fld (j := 5) (sz := 1) Try.underlying31 rfl (by kernel_rfl) h
  match cl, hs8 with
  | [a, b, c, d, e, f, g, i], _ =>
    obtain ⟨_, hf2⟩ := opens_fields Try.underlying29 (by kernel_rfl) (by kernel_rfl) t2
    obtain ⟨_, hf3⟩ := opens_fields Try.underlying29 (by kernel_rfl) (by kernel_rfl) t3
    obtain ⟨u0, p0, w0, g0, s0⟩ := hf2 0 _ rfl
    obtain ⟨u1, p1, w1, g1, s1⟩ := hf2 1 _ rfl
    obtain ⟨u2, p2, w2, g2, s2⟩ := hf3 0 _ rfl
    obtain ⟨u3, p3, w3, g3, s3⟩ := hf3 1 _ rfl
    obtain ⟨x0, rfl, _⟩ := opens_int (enc := enc) (W := W) (P := Try.prog) Try.underlying2 _ _ _ t0
    obtain ⟨x1, rfl, _⟩ := opens_int (enc := enc) (W := W) (P := Try.prog) Try.underlying2 _ _ _ t1
    obtain ⟨y0, rfl, _⟩ := opens_int (enc := enc) (W := W) (P := Try.prog) Try.underlying2 _ _ _ s0
    obtain ⟨y1, rfl, _⟩ := opens_int (enc := enc) (W := W) (P := Try.prog) Try.underlying2 _ _ _ s1
    obtain ⟨y2, rfl, _⟩ := opens_int (enc := enc) (W := W) (P := Try.prog) Try.underlying2 _ _ _ s2
    obtain ⟨y3, rfl, _⟩ := opens_int (enc := enc) (W := W) (P := Try.prog) Try.underlying2 _ _ _ s3
    obtain ⟨x4, rfl, _⟩ := opens_int (enc := enc) (W := W) (P := Try.prog) Try.underlying2 _ _ _ t4
    obtain ⟨x5, rfl, _⟩ := opens_int (enc := enc) (W := W) (P := Try.prog) Try.underlying2 _ _ _ t5
    simp at g0 g1 g2 g3
    subst g0 g1 g2 g3
    exact ⟨⟨x0, x1, y0, y1, y2, y3, x4, x5⟩, rfl⟩
end

end Go.Proofs.Ythhpjgdeehcgjaa
