/-
  Texts joined: McEq, OpenMc, McLaw0.
-/
import Derived.Test.YtccdnmafakaleaaDoorMcTo
import Derived.Test.YtccdnmafakaleaaDoorMc
import Derived.Test.YtccdnmafakaleaaDoorMcSh
/-
  What the laws' szMachine and eqMachine do.
-/
namespace Go.Proofs.YtccdnmafakaleaaDoor
set_option linter.unusedVariables false
set_option linter.unusedSimpArgs false
open Go.RowKit

theorem szI_any (v : Value) (l : List Int) (left : Int) (w : World) (B : Nat) (hl : RdI w B v l) (h0 : 0 ≤ left) (h1 : left ≤ 1048576) :
    Calls Tryd.prog 22 #[v, .int .i64 left] w fun e w' => e = .returned (.int .i64 (szOfM left l.length)) ∧ w = w' := by
  obtain ⟨A, n, c, rfl, hln, hl, gl⟩ := hl
  rw [hl.out]
  clear gl
  by_cases h : (n : Int) ≤ left
  · have HS := Lib.hid (show szOfM left n = left - n by simp [szOfM, h])
    go_enter Tryd.func22, Tryd.ntmps22
    go_wp2
    go_ret
    exact ⟨ret_int HS.out.symm, rfl⟩
  · have HS := Lib.hid (show szOfM left n = -1 by simp [szOfM, h])
    go_enter Tryd.func22, Tryd.ntmps22
    go_wp2
    go_ret
    exact ⟨ret_int HS.out.symm, rfl⟩
theorem szCs_any (v : Value) (l : List Car) (left : Int) (w : World) (B : Nat) (hl : RdCs w B v l) (h0 : 0 ≤ left) (h1 : left ≤ 1048576) :
    Calls Tryd.prog 20 #[v, .int .i64 left] w fun e w' => e = .returned (.int .i64 (szOfM left l.length)) ∧ w = w' := by
  obtain ⟨A, n, c, rfl, hln, hl, gl⟩ := hl
  rw [hl.out]
  clear gl
  by_cases h : (n : Int) ≤ left
  · have HS := Lib.hid (show szOfM left n = left - n by simp [szOfM, h])
    go_enter Tryd.func20, Tryd.ntmps20
    go_wp2
    go_ret
    exact ⟨ret_int HS.out.symm, rfl⟩
  · have HS := Lib.hid (show szOfM left n = -1 by simp [szOfM, h])
    go_enter Tryd.func20, Tryd.ntmps20
    go_wp2
    go_ret
    exact ⟨ret_int HS.out.symm, rfl⟩
theorem szInfo_any (x : Inf) (s : Value) (left : Int) (w : World) (hs : RdI w w.heap.size s x.ps) (h0 : 0 ≤ left) (h1 : left ≤ 1048576) :
    Calls Tryd.prog 53 #[.agg #[.int .i64 x.k, .int .i64 x.y, .int .i64 x.b, .int .i64 x.p, .int .i64 x.d, s], .int .i64 left] w fun e w' => e = .returned (.int .i64 (szOfM left x.ps.length)) ∧ Below w.heap.size w w' := by
  obtain ⟨A0, n0, c0, rfl⟩ := RdI.shape' hs
  have HS := Lib.hid (hs.up' ((Below.refl _ _).alloc (Nat.le_refl _) (.cells #[.int .i64 x.k, .int .i64 x.y, .int .i64 x.b, .int .i64 x.p, .int .i64 x.d, .slice A0 n0 c0] 103)) (by simp))
  clear hs
  by_cases h : (x.ps.length : Int) ≤ left
  · have HZ := Lib.hid (szOfM_yes h)
    rw [HZ.out]
    go_enter Tryd.func53, Tryd.ntmps53
    go_wp2_with fail
    refine (szI_any _ x.ps _ _ _ HS.out h0 h1).mono ?_
    rintro e w1 ⟨rfl, rfl⟩
    rw [HZ.out]
    go_wp2
    go_ret
    exact ⟨rfl, (Below.refl _ _).alloc (Nat.le_refl _) _⟩
  · have HZ := Lib.hid (szOfM_no h)
    rw [HZ.out]
    go_enter Tryd.func53, Tryd.ntmps53
    go_wp2_with fail
    refine (szI_any _ x.ps _ _ _ HS.out h0 h1).mono ?_
    rintro e w1 ⟨rfl, rfl⟩
    rw [HZ.out]
    go_wp2
    go_ret
    exact ⟨rfl, (Below.refl _ _).alloc (Nat.le_refl _) _⟩

/- a size over a slice whose elements hold slices: szLL theorem · laws.szInt64SS function · List (List Int) the datum's type · RdLL its reading · szLLd its size · List.length an element's · obtain ⟨b, off, x, s, rfl, hbb, hlk, hc, hs⟩ := (RdLL.below HL.out hb).at_ hlt the element taken · have hcell := hc its cells · (szI_any _ x _ _ _ HS.out z0 z1) the element's contract -/
set_option maxHeartbeats 2000000 in
set_option maxRecDepth 100000 in
theorem szLL_any (v : Value) (l : List (List Int)) (left : Int) (w : World) (hl : RdLL w w.heap.size v l) (h0 : 0 ≤ left) (h1 : left ≤ 1048576) :
    Calls Tryd.prog 19 #[v, .int .i64 left] w fun e w' => e = .returned (.int .i64 (szLLd left l)) ∧ Below w.heap.size w w' := by
  obtain ⟨A, cp, rfl⟩ := hl.shape
  have hbig := RdN.le hl
  have HL := Lib.hid hl
  clear hl
  generalize hR : szLLd left l = R
  have HR := Lib.hid hR
  clear hR
  by_cases hle : (l.length : Int) ≤ left
  · have HD := Lib.hid (show R = szGo List.length (left - l.length) (l.drop 0) by rw [← HR.out]; simp [szLLd, hle])
    clear HR
    generalize hln : l.length = n at *
    have HLN := Lib.hid hln
    clear hln
    go_enter Tryd.func19, Tryd.ntmps19
    go_wp2
    go_loopw [1, 5] (fun t i wr => ∃ (k : Nat) (z : Int), k ≤ n ∧ i = .int .i64 k ∧ t = .int .i64 z ∧ 0 ≤ z ∧ z ≤ 1048576 ∧ Hid (R = szGo List.length z (l.drop k)) ∧ Below w.heap.size w wr) (fun _ i _ => n - (intOf i).toNat)
    case atStart => exact ⟨0, left - n, Nat.zero_le _, rfl, rfl, by omega, by omega, HD.out, Below.refl _ _⟩
    case round =>
      rename_i wr
      obtain ⟨k, z, hk, rfl, rfl, z0, z1, hd, hb⟩ := hrel
      clear hle h0 h1
      by_cases hlt : k < n
      · obtain ⟨b, off, x, s, rfl, hbb, hlk, hc, hs⟩ := (RdLL.below HL.out hb).at_ hlt
        have hcell := hc
        obtain ⟨A1, n1, c1, rfl⟩ := RdI.shape' hs
        have HS := Lib.hid (hs.more hb.size)
        have HB := Lib.hid hb
        by_cases hx : ((List.length x : Nat) : Int) ≤ z
        · have HN := Lib.hid (szGo_yes hd.out hlk hx)
          have HZ := Lib.hid (szOfM_yes hx)
          clear hb hlk hs hc hd
          go_wp2_with fail
          refine (szI_any _ x _ _ _ HS.out z0 z1).mono ?_
          rintro e w1 ⟨rfl, hb1⟩
          have HB1 : Hid (Below w.heap.size w w1) := by first | exact Lib.hid (HB.out.trans (hb1.mono HB.out.size)) | (subst hb1; exact HB)
          rw [HZ.out]
          clear hb1
          go_wp2
          exact ⟨⟨k + 1, z - (List.length x : Nat), by omega, by go_num, rfl, by omega, by omega, HN.out, HB1.out⟩, by simp [intOf]; omega⟩
        · have HN := Lib.hid (szGo_no hd.out hlk hx)
          have HZ := Lib.hid (szOfM_no hx)
          clear hb hlk hs hc hd
          go_wp2_with fail
          refine (szI_any _ x _ _ _ HS.out z0 z1).mono ?_
          rintro e w1 ⟨rfl, hb1⟩
          have HB1 : Hid (Below w.heap.size w w1) := by first | exact Lib.hid (HB.out.trans (hb1.mono HB.out.size)) | (subst hb1; exact HB)
          rw [HZ.out]
          clear hb1
          go_wp2
          go_ret
          exact ⟨ret_int HN.out.symm, HB1.out⟩
      · have HB := Lib.hid hb
        have HN := Lib.hid (show R = z by rw [hd.out, List.drop_of_length_le (by have := HLN.out; omega)]; rfl)
        clear hb hd
        go_wp2
        go_ret
        exact ⟨ret_int HN.out.symm, HB.out⟩
  · have HN := Lib.hid (show R = -1 by rw [← HR.out]; simp [szLLd, hle])
    clear HR
    generalize hln : l.length = n at *
    go_enter Tryd.func19, Tryd.ntmps19
    go_wp2
    go_ret
    exact ⟨ret_int HN.out.symm, Below.refl _ _⟩
/- a size over a slice whose elements hold slices: szIs theorem · laws.szInfoS function · List Inf the datum's type · RdIs its reading · szIsd its size · infL an element's · obtain ⟨b, off, x, s, rfl, hbb, hlk, hc, hs⟩ := (RdIs.below HL.out hb).at_ hlt the element taken · obtain ⟨e0, e1, e2, e3, e4, e5⟩ := hc.six its cells · ((szInfo_any x _ _ _ (HS.out.more (Nat.le_refl _)) z0 z1)) the element's contract -/
set_option maxHeartbeats 2000000 in
set_option maxRecDepth 100000 in
theorem szIs_any (v : Value) (l : List Inf) (left : Int) (w : World) (hl : RdIs w w.heap.size v l) (h0 : 0 ≤ left) (h1 : left ≤ 1048576) :
    Calls Tryd.prog 21 #[v, .int .i64 left] w fun e w' => e = .returned (.int .i64 (szIsd left l)) ∧ Below w.heap.size w w' := by
  obtain ⟨A, cp, rfl⟩ := hl.shape
  have hbig := RdN.le hl
  have HL := Lib.hid hl
  clear hl
  generalize hR : szIsd left l = R
  have HR := Lib.hid hR
  clear hR
  by_cases hle : (l.length : Int) ≤ left
  · have HD := Lib.hid (show R = szGo infL (left - l.length) (l.drop 0) by rw [← HR.out]; simp [szIsd, hle])
    clear HR
    generalize hln : l.length = n at *
    have HLN := Lib.hid hln
    clear hln
    go_enter Tryd.func21, Tryd.ntmps21
    go_wp2
    go_loopw [1, 5] (fun t i wr => ∃ (k : Nat) (z : Int), k ≤ n ∧ i = .int .i64 k ∧ t = .int .i64 z ∧ 0 ≤ z ∧ z ≤ 1048576 ∧ Hid (R = szGo infL z (l.drop k)) ∧ Below w.heap.size w wr) (fun _ i _ => n - (intOf i).toNat)
    case atStart => exact ⟨0, left - n, Nat.zero_le _, rfl, rfl, by omega, by omega, HD.out, Below.refl _ _⟩
    case round =>
      rename_i wr
      obtain ⟨k, z, hk, rfl, rfl, z0, z1, hd, hb⟩ := hrel
      clear hle h0 h1
      by_cases hlt : k < n
      · obtain ⟨b, off, x, s, rfl, hbb, hlk, hc, hs⟩ := (RdIs.below HL.out hb).at_ hlt
        obtain ⟨e0, e1, e2, e3, e4, e5⟩ := hc.six
        obtain ⟨A1, n1, c1, rfl⟩ := RdI.shape' hs
        have HS := Lib.hid (hs.more hb.size)
        have HB := Lib.hid hb
        by_cases hx : ((infL x : Nat) : Int) ≤ z
        · have HN := Lib.hid (szGo_yes hd.out hlk hx)
          have HZ := Lib.hid (szOfM_yes hx)
          clear hb hlk hs hc hd
          go_wp2_with fail
          refine ((szInfo_any x _ _ _ (HS.out.more (Nat.le_refl _)) z0 z1)).mono ?_
          rintro e w1 ⟨rfl, hb1⟩
          have HB1 : Hid (Below w.heap.size w w1) := by first | exact Lib.hid (HB.out.trans (hb1.mono HB.out.size)) | (subst hb1; exact HB)
          rw [HZ.out]
          clear hb1
          go_wp2
          exact ⟨⟨k + 1, z - (infL x : Nat), by omega, by go_num, rfl, by omega, by omega, HN.out, HB1.out⟩, by simp [intOf]; omega⟩
        · have HN := Lib.hid (szGo_no hd.out hlk hx)
          have HZ := Lib.hid (szOfM_no hx)
          clear hb hlk hs hc hd
          go_wp2_with fail
          refine ((szInfo_any x _ _ _ (HS.out.more (Nat.le_refl _)) z0 z1)).mono ?_
          rintro e w1 ⟨rfl, hb1⟩
          have HB1 : Hid (Below w.heap.size w w1) := by first | exact Lib.hid (HB.out.trans (hb1.mono HB.out.size)) | (subst hb1; exact HB)
          rw [HZ.out]
          clear hb1
          go_wp2
          go_ret
          exact ⟨ret_int HN.out.symm, HB1.out⟩
      · have HB := Lib.hid hb
        have HN := Lib.hid (show R = z by rw [hd.out, List.drop_of_length_le (by have := HLN.out; omega)]; rfl)
        clear hb hd
        go_wp2
        go_ret
        exact ⟨ret_int HN.out.symm, HB.out⟩
  · have HN := Lib.hid (show R = -1 by rw [← HR.out]; simp [szIsd, hle])
    clear HR
    generalize hln : l.length = n at *
    go_enter Tryd.func21, Tryd.ntmps21
    go_wp2
    go_ret
    exact ⟨ret_int HN.out.symm, Below.refl _ _⟩

/-- What szM is, step by step. -/
theorem szM_steps {m : Mc} {z1 z2 z3 z4 z5 : Int} (e1 : szLLd 1048576 m.fr = z1) (e2 : szLLd z1 m.bk = z2) (e3 : szOfM z2 m.cs.length = z3) (e4 : szIsd z3 m.ls = z4) (e5 : szOfM z4 m.dr.length = z5) :
    szM 1048576 m = if z1 < 0 then -1 else if z2 < 0 then -1 else if z3 < 0 then -1 else if z4 < 0 then -1 else z5 := by
  subst e1 e2 e3 e4 e5
  rfl
theorem szLLd_lo {left : Int} {l : List (List Int)} (h : 0 ≤ left) (h1 : left ≤ 1048576) : -1 ≤ szLLd left l ∧ szLLd left l ≤ 1048576 := by
  unfold szLLd; split
  · exact szGo_lo _ l _ (by omega) (by omega)
  · omega
theorem szIsd_lo {left : Int} {l : List Inf} (h : 0 ≤ left) (h1 : left ≤ 1048576) : -1 ≤ szIsd left l ∧ szIsd left l ≤ 1048576 := by
  unfold szIsd; split
  · exact szGo_lo _ l _ (by omega) (by omega)
  · omega

set_option maxHeartbeats 4000000 in
set_option maxRecDepth 100000 in
theorem szMachine_any (v : Value) (m : Mc) (w : World) (hl : RdM w w.heap.size v m) :
    Calls Tryd.prog 5 #[v, .int .i64 1048576] w fun e w' => e = .returned (.int .i64 (szM 1048576 m)) ∧ Below w.heap.size w w' := by
  obtain ⟨f, b, cs, ls, d, rfl, h1, h2, h3, h4, h5, h6⟩ := hl
  obtain ⟨AF, cF, rfl⟩ := RdN.shape h1
  obtain ⟨AG, cG, rfl⟩ := RdN.shape h2
  obtain ⟨AC, cC, rfl⟩ := RdS.lens h3
  obtain ⟨AI, cI, rfl⟩ := RdN.shape h4
  obtain ⟨AD, cD, rfl⟩ := RdI.len h5
  have HF := Lib.hid h1
  have HG := Lib.hid h2
  have HC := Lib.hid h3
  have HI := Lib.hid h4
  have HD := Lib.hid h5
  clear h1 h2 h3 h4 h5 h6
  obtain ⟨z1, e1⟩ : ∃ z, szLLd 1048576 m.fr = z := ⟨_, rfl⟩
  obtain ⟨z2, e2⟩ : ∃ z, szLLd z1 m.bk = z := ⟨_, rfl⟩
  obtain ⟨z3, e3⟩ : ∃ z, szOfM z2 m.cs.length = z := ⟨_, rfl⟩
  obtain ⟨z4, e4⟩ : ∃ z, szIsd z3 m.ls = z := ⟨_, rfl⟩
  obtain ⟨z5, e5⟩ : ∃ z, szOfM z4 m.dr.length = z := ⟨_, rfl⟩
  have HZ := Lib.hid (szM_steps e1 e2 e3 e4 e5)
  have E1 := Lib.hid e1
  have E2 := Lib.hid e2
  have E3 := Lib.hid e3
  have E4 := Lib.hid e4
  have E5 := Lib.hid e5
  clear e1 e2 e3 e4 e5
  have hcl : ∀ w1, Below (w.alloc (.cells #[.int .i64 m.wd, .int .i64 m.rk, .slice AF m.fr.length cF, .slice AG m.bk.length cG, .slice AC m.cs.length cC, .slice AI m.ls.length cI, .slice AD m.dr.length cD] 27)).heap.size (w.alloc (.cells #[.int .i64 m.wd, .int .i64 m.rk, .slice AF m.fr.length cF, .slice AG m.bk.length cG, .slice AC m.cs.length cC, .slice AI m.ls.length cI, .slice AD m.dr.length cD] 27)) w1 → CellsAt w1 w.heap.size 0 [.int .i64 m.wd, .int .i64 m.rk, .slice AF m.fr.length cF, .slice AG m.bk.length cG, .slice AC m.cs.length cC, .slice AI m.ls.length cI, .slice AD m.dr.length cD] := fun w1 hb => (CellsAt.of_alloc (us := [.int .i64 m.wd, .int .i64 m.rk, .slice AF m.fr.length cF, .slice AG m.bk.length cG, .slice AC m.cs.length cC, .slice AI m.ls.length cI, .slice AD m.dr.length cD])).below hb (by simp)
  have B0 := Lib.hid (Below.refl (w.alloc (.cells #[.int .i64 m.wd, .int .i64 m.rk, .slice AF m.fr.length cF, .slice AG m.bk.length cG, .slice AC m.cs.length cC, .slice AI m.ls.length cI, .slice AD m.dr.length cD] 27)).heap.size (w.alloc (.cells #[.int .i64 m.wd, .int .i64 m.rk, .slice AF m.fr.length cF, .slice AG m.bk.length cG, .slice AC m.cs.length cC, .slice AI m.ls.length cI, .slice AD m.dr.length cD] 27)))
  have Bw : Below w.heap.size w (w.alloc (.cells #[.int .i64 m.wd, .int .i64 m.rk, .slice AF m.fr.length cF, .slice AG m.bk.length cG, .slice AC m.cs.length cC, .slice AI m.ls.length cI, .slice AD m.dr.length cD] 27)) := (Below.refl _ _).alloc (Nat.le_refl _) _
  have BW := Lib.hid Bw
  clear Bw
  go_enter Tryd.func5, Tryd.ntmps5
  go_wp2_with fail
  refine (szLL_any _ m.fr _ _ (RdLL.up HF.out (BW.out.trans (B0.out.mono (by simp))) (BW.out.trans (B0.out.mono (by simp))).size) (by omega) (by omega)).mono ?_
  rintro e w1 ⟨rfl, hb⟩
  rw [E1.out]
  have B1 := Lib.hid (B0.out.trans (hb.mono B0.out.size))
  clear hb
  obtain ⟨l1, u1⟩ : -1 ≤ z1 ∧ z1 ≤ 1048576 := by rw [← E1.out]; exact szLLd_lo (by omega) (by omega)
  by_cases p1 : z1 < 0
  · have hq := Lib.hid (show szM 1048576 m = -1 by rw [HZ.out, if_pos (show z1 < 0 by omega)])
    go_wp2
    go_ret
    exact ⟨ret_int hq.out.symm, (BW.out.trans (B1.out.mono (by simp)))⟩
  obtain ⟨x0, x1, x2, x3, x4, x5, x6⟩ := (hcl _ B1.out).seven
  go_wp2_with fail
  clear x0 x1 x2 x3 x4 x5 x6
  refine (szLL_any _ m.bk _ _ (RdLL.up HG.out (BW.out.trans (B1.out.mono (by simp))) (BW.out.trans (B1.out.mono (by simp))).size) (by omega) (by omega)).mono ?_
  rintro e w2 ⟨rfl, hb⟩
  rw [E2.out]
  have B2 := Lib.hid (B1.out.trans (hb.mono B1.out.size))
  clear hb
  obtain ⟨l2, u2⟩ : -1 ≤ z2 ∧ z2 ≤ 1048576 := by rw [← E2.out]; exact szLLd_lo (by omega) (by omega)
  by_cases p2 : z2 < 0
  · have hq := Lib.hid (show szM 1048576 m = -1 by rw [HZ.out, if_neg (show ¬ z1 < 0 by omega), if_pos (show z2 < 0 by omega)])
    go_wp2
    go_ret
    exact ⟨ret_int hq.out.symm, (BW.out.trans (B2.out.mono (by simp)))⟩
  obtain ⟨x0, x1, x2, x3, x4, x5, x6⟩ := (hcl _ B2.out).seven
  go_wp2_with fail
  clear x0 x1 x2 x3 x4 x5 x6
  refine (szCs_any _ m.cs _ _ _ (RdCs.up HC.out (BW.out.trans (B2.out.mono (by simp))) (BW.out.trans (B2.out.mono (by simp))).size) (by omega) (by omega)).mono ?_
  rintro e w3 ⟨rfl, rfl⟩
  rw [E3.out]
  have B3 := B2
  obtain ⟨l3, u3⟩ : -1 ≤ z3 ∧ z3 ≤ 1048576 := by rw [← E3.out]; exact szOfM_lo (by omega) (by omega)
  by_cases p3 : z3 < 0
  · have hq := Lib.hid (show szM 1048576 m = -1 by rw [HZ.out, if_neg (show ¬ z1 < 0 by omega), if_neg (show ¬ z2 < 0 by omega), if_pos (show z3 < 0 by omega)])
    go_wp2
    go_ret
    exact ⟨ret_int hq.out.symm, (BW.out.trans (B3.out.mono (by simp)))⟩
  obtain ⟨x0, x1, x2, x3, x4, x5, x6⟩ := (hcl _ B3.out).seven
  go_wp2_with fail
  clear x0 x1 x2 x3 x4 x5 x6
  refine (szIs_any _ m.ls _ _ (RdIs.up HI.out (BW.out.trans (B3.out.mono (by simp))) (BW.out.trans (B3.out.mono (by simp))).size) (by omega) (by omega)).mono ?_
  rintro e w4 ⟨rfl, hb⟩
  rw [E4.out]
  have B4 := Lib.hid (B3.out.trans (hb.mono B3.out.size))
  clear hb
  obtain ⟨l4, u4⟩ : -1 ≤ z4 ∧ z4 ≤ 1048576 := by rw [← E4.out]; exact szIsd_lo (by omega) (by omega)
  by_cases p4 : z4 < 0
  · have hq := Lib.hid (show szM 1048576 m = -1 by rw [HZ.out, if_neg (show ¬ z1 < 0 by omega), if_neg (show ¬ z2 < 0 by omega), if_neg (show ¬ z3 < 0 by omega), if_pos (show z4 < 0 by omega)])
    go_wp2
    go_ret
    exact ⟨ret_int hq.out.symm, (BW.out.trans (B4.out.mono (by simp)))⟩
  obtain ⟨x0, x1, x2, x3, x4, x5, x6⟩ := (hcl _ B4.out).seven
  go_wp2_with fail
  clear x0 x1 x2 x3 x4 x5 x6
  refine (szI_any _ m.dr _ _ _ (RdI.up' HD.out (BW.out.trans (B4.out.mono (by simp))) (BW.out.trans (B4.out.mono (by simp))).size) (by omega) (by omega)).mono ?_
  rintro e w5 ⟨rfl, rfl⟩
  rw [E5.out]
  have B5 := B4
  obtain ⟨l5, u5⟩ : -1 ≤ z5 ∧ z5 ≤ 1048576 := by rw [← E5.out]; exact szOfM_lo (by omega) (by omega)
  by_cases p5 : z5 < 0
  · have hq := Lib.hid (show szM 1048576 m = -1 by rw [HZ.out, if_neg (show ¬ z1 < 0 by omega), if_neg (show ¬ z2 < 0 by omega), if_neg (show ¬ z3 < 0 by omega), if_neg (show ¬ z4 < 0 by omega)]; omega)
    go_wp2
    go_ret
    exact ⟨ret_int hq.out.symm, (BW.out.trans (B5.out.mono (by simp)))⟩
  have hq := Lib.hid (show szM 1048576 m = z5 by rw [HZ.out, if_neg (show ¬ z1 < 0 by omega), if_neg (show ¬ z2 < 0 by omega), if_neg (show ¬ z3 < 0 by omega), if_neg (show ¬ z4 < 0 by omega)])
  go_wp2
  go_ret
  exact ⟨ret_int hq.out.symm, (BW.out.trans (B5.out.mono (by simp)))⟩

/-! ### The laws compare machines with machines that are alike -/
theorem eqI_same (v u : Value) (l : List Int) (w : World) (hl : RdI w w.heap.size v l) (hm : RdI w w.heap.size u l) :
    Calls Tryd.prog 41 #[v, u] w fun x w' => x = .returned (.bool true) ∧ Below w.heap.size w w' :=
  (eqInt64S_any v u l l w _ hl hm (Nat.le_refl _)).mono fun e w' ⟨h1, h2⟩ => ⟨by rw [h1]; simp, h2⟩
theorem eqCarrier_same (c : Car) (w : World) : Calls Tryd.prog 73 #[.agg #[.bool c.i, .int .i64 c.p], .agg #[.bool c.i, .int .i64 c.p]] w fun x w' => x = .returned (.bool true) ∧ Below w.heap.size w w' := by
  obtain ⟨b, p⟩ := c
  cases b
  all_goals
    go_enter Tryd.func73, Tryd.ntmps73
    go_wp2
    go_ret
    exact ⟨rfl, ((Below.refl _ _).alloc (Nat.le_refl _) _).alloc (by simp) _⟩
set_option maxHeartbeats 1000000 in
theorem eqInfo_same (x : Inf) (s t : Value) (w : World) (hs : RdI w w.heap.size s x.ps) (ht : RdI w w.heap.size t x.ps) :
    Calls Tryd.prog 74 #[.agg #[.int .i64 x.k, .int .i64 x.y, .int .i64 x.b, .int .i64 x.p, .int .i64 x.d, s], .agg #[.int .i64 x.k, .int .i64 x.y, .int .i64 x.b, .int .i64 x.p, .int .i64 x.d, t]] w fun e w' => e = .returned (.bool true) ∧ Below w.heap.size w w' := by
  obtain ⟨A0, n0, c0, rfl⟩ := RdI.shape' hs
  obtain ⟨A1, n1, c1, rfl⟩ := RdI.shape' ht
  have HS := Lib.hid hs
  have HT := Lib.hid ht
  clear hs ht
  go_enter Tryd.func74, Tryd.ntmps74
  go_wp2_with fail
  refine (eqI_same _ _ x.ps _ (HS.out.up' (((Below.refl _ _).alloc (Nat.le_refl _) _).alloc (by simp) _) (by simp; omega)) (HT.out.up' (((Below.refl _ _).alloc (Nat.le_refl _) _).alloc (by simp) _) (by simp; omega))).mono ?_
  rintro e w1 ⟨rfl, hb⟩
  have HB := Lib.hid ((((Below.refl _ _).alloc (Nat.le_refl _) _).alloc (by simp) _).trans (hb.mono (by simp; omega)))
  clear hb
  go_wp2
  go_ret
  exact ⟨rfl, HB.out⟩

/- two slices whose elements hold slices, alike: eqLL theorem · laws.eqInt64SS function · List (List Int) the datum's type · RdLL its reading · obtain ⟨b, off, x, s, rfl, hbb, hlk, hc, hs⟩ := (RdLL.below HL.out hb).at_ hlt, obtain ⟨b', off', x', t, rfl, hbb', hlk', hc', ht⟩ := (RdLL.below HM.out hb).at_ hlt the elements taken · have e0 := fun X => wgrow_cell (x := X) hc; have f0 := fun X => wgrow_cell (x := X) hc' their cells in grown worlds · laws.eqInt64S the element's comparison · (eqI_same _ _ x _ (HS _).out (HT _).out) its contract -/
set_option maxHeartbeats 2000000 in
set_option maxRecDepth 100000 in
theorem eqLL_same (v u : Value) (l : List (List Int)) (w : World) (hl : RdLL w w.heap.size v l) (hm : RdLL w w.heap.size u l) :
    Calls Tryd.prog 38 #[v, u] w fun x w' => x = .returned (.bool true) ∧ Below w.heap.size w w' := by
  obtain ⟨A, cp, rfl⟩ := RdN.shape hl
  obtain ⟨A', cp', rfl⟩ := RdN.shape hm
  have hbig := RdN.le hl
  have HL := Lib.hid hl
  have HM := Lib.hid hm
  clear hl hm
  generalize hln : l.length = n at *
  go_enter Tryd.func38, Tryd.ntmps38
  go_wp2
  go_loopw [5] (fun i wr => ∃ k : Nat, k ≤ n ∧ i = .int .i64 k ∧ Below w.heap.size w wr) (fun i _ => n - (intOf i).toNat)
  case atStart => exact ⟨0, Nat.zero_le _, rfl, Below.refl _ _⟩
  case round =>
    rename_i wr
    obtain ⟨k, hk, rfl, hb⟩ := hrel
    by_cases hlt : k < n
    · obtain ⟨b, off, x, s, rfl, hbb, hlk, hc, hs⟩ := (RdLL.below HL.out hb).at_ hlt
      obtain ⟨b', off', x', t, rfl, hbb', hlk', hc', ht⟩ := (RdLL.below HM.out hb).at_ hlt
      obtain rfl : x = x' := by rw [hlk] at hlk'; injection hlk'
      obtain ⟨A1, n1, c1, rfl⟩ := RdI.shape' hs
      obtain ⟨A2, n2, c2, rfl⟩ := RdI.shape' ht
      have hs1 := hs.more hb.size
      have ht1 := ht.more hb.size
      have HS := fun X => Lib.hid (hs1.up' (below_wgrow wr X) (below_wgrow wr X).size)
      have HT := fun X => Lib.hid (ht1.up' (below_wgrow wr X) (below_wgrow wr X).size)
      have e0 := fun X => wgrow_cell (x := X) hc; have f0 := fun X => wgrow_cell (x := X) hc'
      have HB := Lib.hid hb
      clear hc hc' hlk hlk' hb hs ht hs1 ht1
      go_wp2
      refine wp_region_grow (by kernel_rfl) (by kernel_rfl) ?_
      repeat (go_big_quiet_step ((go_at_call 41; exact calls_grow (eqI_same _ _ x _ (HS _).out (HT _).out))))
      refine wpQuiet_nil ?_
      intro w1 hb1
      have HB1 := HB.out.trans (hb1.mono HB.out.size)
      go_wp2
      exact ⟨⟨k + 1, by omega, by go_num, HB1⟩, by simp [intOf]; omega⟩
    · go_wp2
      go_ret
      exact ⟨rfl, hb⟩
/- two slices whose elements hold slices, alike: eqIs theorem · laws.eqInfoS function · List Inf the datum's type · RdIs its reading · obtain ⟨b, off, x, s, rfl, hbb, hlk, hc, hs⟩ := (RdIs.below HL.out hb).at_ hlt, obtain ⟨b', off', x', t, rfl, hbb', hlk', hc', ht⟩ := (RdIs.below HM.out hb).at_ hlt the elements taken · obtain ⟨e0, e1, e2, e3, e4, e5⟩ := hc.grow6; obtain ⟨f0, f1, f2, f3, f4, f5⟩ := hc'.grow6 their cells in grown worlds · laws.eqInfo the element's comparison · (eqInfo_same x _ _ _ (HS _).out (HT _).out) its contract -/
set_option maxHeartbeats 2000000 in
set_option maxRecDepth 100000 in
theorem eqIs_same (v u : Value) (l : List Inf) (w : World) (hl : RdIs w w.heap.size v l) (hm : RdIs w w.heap.size u l) :
    Calls Tryd.prog 40 #[v, u] w fun x w' => x = .returned (.bool true) ∧ Below w.heap.size w w' := by
  obtain ⟨A, cp, rfl⟩ := RdN.shape hl
  obtain ⟨A', cp', rfl⟩ := RdN.shape hm
  have hbig := RdN.le hl
  have HL := Lib.hid hl
  have HM := Lib.hid hm
  clear hl hm
  generalize hln : l.length = n at *
  go_enter Tryd.func40, Tryd.ntmps40
  go_wp2
  go_loopw [5] (fun i wr => ∃ k : Nat, k ≤ n ∧ i = .int .i64 k ∧ Below w.heap.size w wr) (fun i _ => n - (intOf i).toNat)
  case atStart => exact ⟨0, Nat.zero_le _, rfl, Below.refl _ _⟩
  case round =>
    rename_i wr
    obtain ⟨k, hk, rfl, hb⟩ := hrel
    by_cases hlt : k < n
    · obtain ⟨b, off, x, s, rfl, hbb, hlk, hc, hs⟩ := (RdIs.below HL.out hb).at_ hlt
      obtain ⟨b', off', x', t, rfl, hbb', hlk', hc', ht⟩ := (RdIs.below HM.out hb).at_ hlt
      obtain rfl : x = x' := by rw [hlk] at hlk'; injection hlk'
      obtain ⟨A1, n1, c1, rfl⟩ := RdI.shape' hs
      obtain ⟨A2, n2, c2, rfl⟩ := RdI.shape' ht
      have hs1 := hs.more hb.size
      have ht1 := ht.more hb.size
      have HS := fun X => Lib.hid (hs1.up' (below_wgrow wr X) (below_wgrow wr X).size)
      have HT := fun X => Lib.hid (ht1.up' (below_wgrow wr X) (below_wgrow wr X).size)
      obtain ⟨e0, e1, e2, e3, e4, e5⟩ := hc.grow6; obtain ⟨f0, f1, f2, f3, f4, f5⟩ := hc'.grow6
      have HB := Lib.hid hb
      clear hc hc' hlk hlk' hb hs ht hs1 ht1
      go_wp2
      refine wp_region_grow (by kernel_rfl) (by kernel_rfl) ?_
      repeat (go_big_quiet_step ((go_at_call 74; exact calls_grow (eqInfo_same x _ _ _ (HS _).out (HT _).out))))
      refine wpQuiet_nil ?_
      intro w1 hb1
      have HB1 := HB.out.trans (hb1.mono HB.out.size)
      go_wp2
      exact ⟨⟨k + 1, by omega, by go_num, HB1⟩, by simp [intOf]; omega⟩
    · go_wp2
      go_ret
      exact ⟨rfl, hb⟩

set_option maxHeartbeats 1000000 in
theorem eqCs_same (v u : Value) (l : List Car) (w : World) (hl : RdCs w w.heap.size v l) (hm : RdCs w w.heap.size u l) :
    Calls Tryd.prog 39 #[v, u] w fun x w' => x = .returned (.bool true) ∧ Below w.heap.size w w' := by
  obtain ⟨A, n, c, rfl, hln, hl, gl⟩ := hl
  obtain ⟨A', n', c', rfl, hmn, hm, gm⟩ := hm
  obtain rfl : n' = n := hm.out.symm.trans hl.out
  go_enter Tryd.func39, Tryd.ntmps39
  go_wp2
  go_loopw [5] (fun i wr => ∃ k : Nat, k ≤ n' ∧ i = .int .i64 k ∧ Below w.heap.size w wr) (fun i _ => n' - (intOf i).toNat)
  case atStart => exact ⟨0, Nat.zero_le _, rfl, Below.refl _ _⟩
  case round =>
    rename_i wr
    obtain ⟨k, hk, rfl, hb⟩ := hrel
    by_cases hlt : k < n'
    · obtain ⟨b, off, x, rfl, hbb, hlk, hc⟩ := gl k hlt
      obtain ⟨b', off', y, rfl, hbb', hmk, hc'⟩ := gm k hlt
      obtain rfl : x = y := by rw [hlk] at hmk; injection hmk
      obtain ⟨e0, e1⟩ := (hc.below hb hbb).grow2
      obtain ⟨f0, f1⟩ := (hc'.below hb hbb').grow2
      have HB := Lib.hid hb
      clear hc hc' hlk hmk hb gl gm
      go_wp2
      refine wp_region_grow (by kernel_rfl) (by kernel_rfl) ?_
      repeat (go_big_quiet_step ((go_at_call 73; exact calls_grow (eqCarrier_same _ _))))
      refine wpQuiet_nil ?_
      intro w1 hb1
      have HB1 := HB.out.trans (hb1.mono HB.out.size)
      go_wp2
      exact ⟨⟨k + 1, by omega, by go_num, HB1⟩, by simp [intOf]; omega⟩
    · go_wp2
      go_ret
      exact ⟨rfl, hb⟩

set_option maxHeartbeats 4000000 in
set_option maxRecDepth 100000 in
theorem eqMachine_same (v u : Value) (m : Mc) (w : World) (hl : RdM w w.heap.size v m) (hm : RdM w w.heap.size u m) :
    Calls Tryd.prog 9 #[v, u] w fun x w' => x = .returned (.bool true) ∧ Below w.heap.size w w' := by
  obtain ⟨f, b, cs, ls, d, rfl, h1, h2, h3, h4, h5, h6⟩ := hl
  obtain ⟨AF, cF, rfl⟩ := RdN.shape h1
  obtain ⟨AG, cG, rfl⟩ := RdN.shape h2
  obtain ⟨AC, cC, rfl⟩ := RdS.lens h3
  obtain ⟨AI, cI, rfl⟩ := RdN.shape h4
  obtain ⟨AD, cD, rfl⟩ := RdI.len h5
  have HF := Lib.hid h1
  have HG := Lib.hid h2
  have HC := Lib.hid h3
  have HI := Lib.hid h4
  have HD := Lib.hid h5
  clear h1 h2 h3 h4 h5 h6
  obtain ⟨f, b, cs, ls, d, rfl, h1, h2, h3, h4, h5, h6⟩ := hm
  obtain ⟨BF, dF, rfl⟩ := RdN.shape h1
  obtain ⟨BG, dG, rfl⟩ := RdN.shape h2
  obtain ⟨BC, dC, rfl⟩ := RdS.lens h3
  obtain ⟨BI, dI, rfl⟩ := RdN.shape h4
  obtain ⟨BD, dD, rfl⟩ := RdI.len h5
  have JF := Lib.hid h1
  have JG := Lib.hid h2
  have JC := Lib.hid h3
  have JI := Lib.hid h4
  have JD := Lib.hid h5
  clear h1 h2 h3 h4 h5 h6
  have hcl : ∀ w1, Below ((w.alloc (.cells #[.int .i64 m.wd, .int .i64 m.rk, .slice AF m.fr.length cF, .slice AG m.bk.length cG, .slice AC m.cs.length cC, .slice AI m.ls.length cI, .slice AD m.dr.length cD] 33)).alloc (.cells #[.int .i64 m.wd, .int .i64 m.rk, .slice BF m.fr.length dF, .slice BG m.bk.length dG, .slice BC m.cs.length dC, .slice BI m.ls.length dI, .slice BD m.dr.length dD] 33)).heap.size ((w.alloc (.cells #[.int .i64 m.wd, .int .i64 m.rk, .slice AF m.fr.length cF, .slice AG m.bk.length cG, .slice AC m.cs.length cC, .slice AI m.ls.length cI, .slice AD m.dr.length cD] 33)).alloc (.cells #[.int .i64 m.wd, .int .i64 m.rk, .slice BF m.fr.length dF, .slice BG m.bk.length dG, .slice BC m.cs.length dC, .slice BI m.ls.length dI, .slice BD m.dr.length dD] 33)) w1 → CellsAt w1 w.heap.size 0 [.int .i64 m.wd, .int .i64 m.rk, .slice AF m.fr.length cF, .slice AG m.bk.length cG, .slice AC m.cs.length cC, .slice AI m.ls.length cI, .slice AD m.dr.length cD] := fun w1 hb => ((CellsAt.of_alloc (us := [.int .i64 m.wd, .int .i64 m.rk, .slice AF m.fr.length cF, .slice AG m.bk.length cG, .slice AC m.cs.length cC, .slice AI m.ls.length cI, .slice AD m.dr.length cD])).alloc (by simp) _).below hb (by simp; omega)
  have hcm : ∀ w1, Below ((w.alloc (.cells #[.int .i64 m.wd, .int .i64 m.rk, .slice AF m.fr.length cF, .slice AG m.bk.length cG, .slice AC m.cs.length cC, .slice AI m.ls.length cI, .slice AD m.dr.length cD] 33)).alloc (.cells #[.int .i64 m.wd, .int .i64 m.rk, .slice BF m.fr.length dF, .slice BG m.bk.length dG, .slice BC m.cs.length dC, .slice BI m.ls.length dI, .slice BD m.dr.length dD] 33)).heap.size ((w.alloc (.cells #[.int .i64 m.wd, .int .i64 m.rk, .slice AF m.fr.length cF, .slice AG m.bk.length cG, .slice AC m.cs.length cC, .slice AI m.ls.length cI, .slice AD m.dr.length cD] 33)).alloc (.cells #[.int .i64 m.wd, .int .i64 m.rk, .slice BF m.fr.length dF, .slice BG m.bk.length dG, .slice BC m.cs.length dC, .slice BI m.ls.length dI, .slice BD m.dr.length dD] 33)) w1 → CellsAt w1 (w.heap.size + 1) 0 [.int .i64 m.wd, .int .i64 m.rk, .slice BF m.fr.length dF, .slice BG m.bk.length dG, .slice BC m.cs.length dC, .slice BI m.ls.length dI, .slice BD m.dr.length dD] := fun w1 hb => by
    have h := CellsAt.of_alloc (w := (w.alloc (.cells #[.int .i64 m.wd, .int .i64 m.rk, .slice AF m.fr.length cF, .slice AG m.bk.length cG, .slice AC m.cs.length cC, .slice AI m.ls.length cI, .slice AD m.dr.length cD] 33))) (us := [.int .i64 m.wd, .int .i64 m.rk, .slice BF m.fr.length dF, .slice BG m.bk.length dG, .slice BC m.cs.length dC, .slice BI m.ls.length dI, .slice BD m.dr.length dD]) (t := 33)
    simp only [World.size_alloc] at h
    exact h.below hb (by simp)
  have B0 := Lib.hid (Below.refl ((w.alloc (.cells #[.int .i64 m.wd, .int .i64 m.rk, .slice AF m.fr.length cF, .slice AG m.bk.length cG, .slice AC m.cs.length cC, .slice AI m.ls.length cI, .slice AD m.dr.length cD] 33)).alloc (.cells #[.int .i64 m.wd, .int .i64 m.rk, .slice BF m.fr.length dF, .slice BG m.bk.length dG, .slice BC m.cs.length dC, .slice BI m.ls.length dI, .slice BD m.dr.length dD] 33)).heap.size ((w.alloc (.cells #[.int .i64 m.wd, .int .i64 m.rk, .slice AF m.fr.length cF, .slice AG m.bk.length cG, .slice AC m.cs.length cC, .slice AI m.ls.length cI, .slice AD m.dr.length cD] 33)).alloc (.cells #[.int .i64 m.wd, .int .i64 m.rk, .slice BF m.fr.length dF, .slice BG m.bk.length dG, .slice BC m.cs.length dC, .slice BI m.ls.length dI, .slice BD m.dr.length dD] 33)))
  have Bw : Below w.heap.size w ((w.alloc (.cells #[.int .i64 m.wd, .int .i64 m.rk, .slice AF m.fr.length cF, .slice AG m.bk.length cG, .slice AC m.cs.length cC, .slice AI m.ls.length cI, .slice AD m.dr.length cD] 33)).alloc (.cells #[.int .i64 m.wd, .int .i64 m.rk, .slice BF m.fr.length dF, .slice BG m.bk.length dG, .slice BC m.cs.length dC, .slice BI m.ls.length dI, .slice BD m.dr.length dD] 33)) := ((Below.refl _ _).alloc (Nat.le_refl _) _).alloc (by simp) _
  have BW := Lib.hid Bw
  clear Bw
  go_enter Tryd.func9, Tryd.ntmps9
  go_wp2_with fail
  refine (eqLL_same _ _ m.fr _ (RdLL.up HF.out (BW.out.trans (B0.out.mono (by simp; try omega))) (BW.out.trans (B0.out.mono (by simp; try omega))).size) (RdLL.up JF.out (BW.out.trans (B0.out.mono (by simp; try omega))) (BW.out.trans (B0.out.mono (by simp; try omega))).size)).mono ?_
  rintro e w1 ⟨rfl, hb⟩
  have B1 := Lib.hid (B0.out.trans (hb.mono B0.out.size))
  clear hb
  obtain ⟨x0, x1, x2, x3, x4, x5, x6⟩ := (hcl _ B1.out).seven
  obtain ⟨y0, y1, y2, y3, y4, y5, y6⟩ := (hcm _ B1.out).seven
  go_wp2_with fail
  clear x0 x1 x2 x3 x4 x5 x6 y0 y1 y2 y3 y4 y5 y6
  refine (eqLL_same _ _ m.bk _ (RdLL.up HG.out (BW.out.trans (B1.out.mono (by simp; try omega))) (BW.out.trans (B1.out.mono (by simp; try omega))).size) (RdLL.up JG.out (BW.out.trans (B1.out.mono (by simp; try omega))) (BW.out.trans (B1.out.mono (by simp; try omega))).size)).mono ?_
  rintro e w2 ⟨rfl, hb⟩
  have B2 := Lib.hid (B1.out.trans (hb.mono B1.out.size))
  clear hb
  obtain ⟨x0, x1, x2, x3, x4, x5, x6⟩ := (hcl _ B2.out).seven
  obtain ⟨y0, y1, y2, y3, y4, y5, y6⟩ := (hcm _ B2.out).seven
  go_wp2_with fail
  clear x0 x1 x2 x3 x4 x5 x6 y0 y1 y2 y3 y4 y5 y6
  refine (eqCs_same _ _ m.cs _ (RdCs.up HC.out (BW.out.trans (B2.out.mono (by simp; try omega))) (BW.out.trans (B2.out.mono (by simp; try omega))).size) (RdCs.up JC.out (BW.out.trans (B2.out.mono (by simp; try omega))) (BW.out.trans (B2.out.mono (by simp; try omega))).size)).mono ?_
  rintro e w3 ⟨rfl, hb⟩
  have B3 := Lib.hid (B2.out.trans (hb.mono B2.out.size))
  clear hb
  obtain ⟨x0, x1, x2, x3, x4, x5, x6⟩ := (hcl _ B3.out).seven
  obtain ⟨y0, y1, y2, y3, y4, y5, y6⟩ := (hcm _ B3.out).seven
  go_wp2_with fail
  clear x0 x1 x2 x3 x4 x5 x6 y0 y1 y2 y3 y4 y5 y6
  refine (eqIs_same _ _ m.ls _ (RdIs.up HI.out (BW.out.trans (B3.out.mono (by simp; try omega))) (BW.out.trans (B3.out.mono (by simp; try omega))).size) (RdIs.up JI.out (BW.out.trans (B3.out.mono (by simp; try omega))) (BW.out.trans (B3.out.mono (by simp; try omega))).size)).mono ?_
  rintro e w4 ⟨rfl, hb⟩
  have B4 := Lib.hid (B3.out.trans (hb.mono B3.out.size))
  clear hb
  obtain ⟨x0, x1, x2, x3, x4, x5, x6⟩ := (hcl _ B4.out).seven
  obtain ⟨y0, y1, y2, y3, y4, y5, y6⟩ := (hcm _ B4.out).seven
  go_wp2_with fail
  clear x0 x1 x2 x3 x4 x5 x6 y0 y1 y2 y3 y4 y5 y6
  refine (eqI_same _ _ m.dr _ (RdI.up' HD.out (BW.out.trans (B4.out.mono (by simp; try omega))) (BW.out.trans (B4.out.mono (by simp; try omega))).size) (RdI.up' JD.out (BW.out.trans (B4.out.mono (by simp; try omega))) (BW.out.trans (B4.out.mono (by simp; try omega))).size)).mono ?_
  rintro e w5 ⟨rfl, hb⟩
  have B5 := Lib.hid (B4.out.trans (hb.mono B4.out.size))
  clear hb
  go_wp2
  go_ret
  exact ⟨rfl, (BW.out.trans (B5.out.mono (by simp; try omega)))⟩

end Go.Proofs.YtccdnmafakaleaaDoor

/-
  A machine that is an argument.
-/
namespace Go.Proofs.YtccdnmafakaleaaDoor
set_option linter.unusedVariables false
set_option linter.unusedSimpArgs false
open Go.ChangeShapes Go.WideShapes Go.ChangeAt Go.RowKit Go.Deep

section
variable {H : Type} {enc : TypeId × Value → H} {W : World}
theorem opens_int64 : Opens enc Tryd.prog W 2 (fun v x => v = .int .i64 x ∧ Fit x) := opens_int Tryd.underlying2
theorem opens_int64S : Opens enc Tryd.prog W 25 (fun v l => RdI W W.heap.size v l ∧ ∀ x ∈ l, Fit x) := opens_ints Tryd.underlying25 Tryd.underlying2 (by kernel_rfl)
theorem opens_int64Sc : Opens enc Tryd.prog W 25 (fun v l => RdI W W.heap.size v l ∧ CapOk v) := fun n v y h => by
  obtain ⟨l, hl, _⟩ := opens_int64S n v y h
  refine ⟨l, hl, ?_⟩
  rcases open_ints Tryd.underlying25 Tryd.underlying2 (by kernel_rfl) h with ⟨hcs, _⟩ | ⟨a, n', c, zs, hcs, _, hl', _⟩
  · simp at hcs
    exact ⟨none, 0, 0, hcs, Nat.le_refl _⟩
  · simp at hcs
    exact ⟨_, n', c, hcs, hl'⟩
theorem opens_int64SS : Opens enc Tryd.prog W 22 (fun v l => RdLL W W.heap.size v l) := by
  refine opens_rdN (R := rLL) (sz := 1) Tryd.underlying22 (by kernel_rfl) (by decide) ?_
  intro us n y hl h
  match us, hl with
  | [s], _ =>
    obtain ⟨l, hl, hc⟩ := opens_int64Sc _ _ _ h
    exact ⟨l, s, rfl, hl, hc⟩
set_option maxRecDepth 100000 in
theorem opens_carS : Opens enc Tryd.prog W 23 (fun v l => RdCs W W.heap.size v l) := by
  intro n v y h
  obtain ⟨l, A, n', c, rfl, hn, hl, hh⟩ := opens_rdN (R := fun _ _ us (x : Car) => us = x.cells) (sz := 2) Tryd.underlying23 (by kernel_rfl) (by decide) (by
    intro us n y hl h
    obtain ⟨hs, hf⟩ := opens_fields Tryd.underlying114 (by kernel_rfl) (by kernel_rfl) h
    obtain ⟨u0, q0, z0, g0, t0⟩ := hf 0 _ rfl
    obtain ⟨u1, q1, z1, g1, t1⟩ := hf 1 _ rfl
    obtain ⟨b, rfl⟩ := opens_bool (enc := enc) (W := W) (P := Tryd.prog) Tryd.underlying4 _ _ _ t0
    obtain ⟨p, rfl, _⟩ := opens_int64 _ _ _ t1
    match us, hl with
    | [a, c], _ =>
      simp at g0 g1
      exact ⟨⟨b, p⟩, by rw [g0, g1]⟩) _ _ _ h
  refine ⟨l, A, n', c, rfl, hn, hl, fun k hk => ?_⟩
  obtain ⟨b, off, x, us, h1, h2, h3, h4, h5, rfl⟩ := hh k hk
  exact ⟨b, off, x, h1, h2, h3, h5⟩
set_option maxRecDepth 100000 in
theorem opens_infoS : Opens enc Tryd.prog W 24 (fun v l => RdIs W W.heap.size v l) := by
  refine opens_rdN (R := rInf) (sz := 6) Tryd.underlying24 (by kernel_rfl) (by decide) ?_
  intro us n y hl h
  obtain ⟨hs, hf⟩ := opens_fields Tryd.underlying103 (by kernel_rfl) (by kernel_rfl) h
  obtain ⟨u0, q0, z0, g0, t0⟩ := hf 0 _ rfl
  obtain ⟨u1, q1, z1, g1, t1⟩ := hf 1 _ rfl
  obtain ⟨u2, q2, z2, g2, t2⟩ := hf 2 _ rfl
  obtain ⟨u3, q3, z3, g3, t3⟩ := hf 3 _ rfl
  obtain ⟨u4, q4, z4, g4, t4⟩ := hf 4 _ rfl
  obtain ⟨u5, q5, z5, g5, t5⟩ := hf 5 _ rfl
  obtain ⟨x0, rfl, _⟩ := opens_int64 _ _ _ t0
  obtain ⟨x1, rfl, _⟩ := opens_int64 _ _ _ t1
  obtain ⟨x2, rfl, _⟩ := opens_int64 _ _ _ t2
  obtain ⟨x3, rfl, _⟩ := opens_int64 _ _ _ t3
  obtain ⟨x4, rfl, _⟩ := opens_int64 _ _ _ t4
  obtain ⟨ps, hps, hcp⟩ := opens_int64Sc _ _ _ t5
  match us, hl with
  | [a, b, c, d, e, f], _ =>
    simp at g0 g1 g2 g3 g4 g5
    exact ⟨⟨x0, x1, x2, x3, x4, ps⟩, u5, by rw [g0, g1, g2, g3, g4, g5], hps, hcp⟩

set_option maxRecDepth 100000 in
theorem open_machine {base : Nat} {d : DataW H} {p : List MemPlace} {v : Value} (ho : Value.okWide Tryd.prog W .any base 27 v)
    (h : DataW.Trod enc Tryd.prog W 0 (fun _ => true) true 27 v d p) : ∃ m : Mc, RdM W W.heap.size v m ∧ Fit m.wd ∧ Fit m.rk := by
  obtain ⟨cs, rfl, hs, hf⟩ := opens_struct Tryd.underlying27 (by kernel_rfl) (by kernel_rfl) ho h
  obtain ⟨u0, q0, z0, g0, t0⟩ := hf 0 _ rfl
  obtain ⟨u1, q1, z1, g1, t1⟩ := hf 1 _ rfl
  obtain ⟨u2, q2, z2, g2, t2⟩ := hf 2 _ rfl
  obtain ⟨u3, q3, z3, g3, t3⟩ := hf 3 _ rfl
  obtain ⟨u4, q4, z4, g4, t4⟩ := hf 4 _ rfl
  obtain ⟨u5, q5, z5, g5, t5⟩ := hf 5 _ rfl
  obtain ⟨u6, q6, z6, g6, t6⟩ := hf 6 _ rfl
  obtain ⟨x0, rfl, f0⟩ := opens_int64 _ _ _ t0
  obtain ⟨x1, rfl, f1⟩ := opens_int64 _ _ _ t1
  obtain ⟨fr, h2⟩ := opens_int64SS _ _ _ t2
  obtain ⟨bk, h3⟩ := opens_int64SS _ _ _ t3
  obtain ⟨ca, h4⟩ := opens_carS _ _ _ t4
  obtain ⟨ls, h5⟩ := opens_infoS _ _ _ t5
  obtain ⟨dr, h6, h7⟩ := opens_int64Sc _ _ _ t6
  refine ⟨⟨x0, x1, fr, bk, ca, ls, dr⟩, ⟨u2, u3, u4, u5, u6, ?_, h2, h3, h4, h5, h6, h7⟩, f0, f1⟩
  congr 1
  apply Array.ext'
  obtain ⟨cl⟩ := cs
  simp at hs g0 g1 g2 g3 g4 g5 g6
  match cl, hs with
  | [a, b, c, d, e, f, g], _ =>
    simp at g0 g1 g2 g3 g4 g5 g6
    rw [g0, g1, g2, g3, g4, g5, g6]
end

end Go.Proofs.YtccdnmafakaleaaDoor

/-
  Machines by value in the laws: their form, kept behind what only adds memory or turns other rows.
-/
namespace Go.Proofs.YtccdnmafakaleaaDoor
set_option linter.unusedVariables false
set_option linter.unusedSimpArgs false
open Go.RowKit

theorem RdM.of_own {w : World} {lo hi : Nat} {v : Value} {m : Mc} (h : OwM w lo hi v m) : RdM w hi v m := by
  obtain ⟨f, b, cs, ls, d, rfl, a0, a1, a2, a3, a4, a5, g0, g1, g2, g3, g4, g5, g6, h1, h2, h3, h4, h5⟩ := h
  refine ⟨f, b, cs, ls, d, rfl, RdLL.more (RdN.of_own (fun lo hi us x h => oLL_rd h) (fun B B' us x hB h => rLL_more hB us x h) (by decide) h1) (by omega), RdLL.more (RdN.of_own (fun lo hi us x h => oLL_rd h) (fun B B' us x hB h => rLL_more hB us x h) (by decide) h2) (by omega),
    (RdS.of_own Car.len h3).more (by omega), RdIs.more (RdN.of_own (fun lo hi us x h => oInf_rd h) (fun B B' us x hB h => rInf_more hB us x h) (by decide) h4) (by omega), (RdI.of_own h5).more (by omega), h5.cap⟩
theorem OwM.shape {w : World} {lo hi : Nat} {v : Value} {m : Mc} (h : OwM w lo hi v m) : ∃ AF cF AG cG AC cC AI cI AD cD, v = .agg #[.int .i64 m.wd, .int .i64 m.rk, .slice AF m.fr.length cF, .slice AG m.bk.length cG, .slice AC m.cs.length cC, .slice AI m.ls.length cI, .slice AD m.dr.length cD] := RdM.shape (RdM.of_own h)
theorem OwM.below {w w' : World} {lo hi : Nat} {v : Value} {m : Mc} (h : OwM w lo hi v m) (hb : Below hi w w') : OwM w' lo hi v m := by
  obtain ⟨f, b, cs, ls, d, e, a0, a1, a2, a3, a4, a5, g0, g1, g2, g3, g4, g5, g6, h1, h2, h3, h4, h5⟩ := h
  exact ⟨f, b, cs, ls, d, e, a0, a1, a2, a3, a4, a5, g0, g1, g2, g3, g4, g5, g6, OwLL.below h1 (hb.mono (by omega)), OwLL.below h2 (hb.mono (by omega)), h3.below (hb.mono (by omega)), OwIs.below h4 (hb.mono (by omega)), h5.below (hb.mono (by omega))⟩
theorem OwM.only {w w' : World} {lo hi a b : Nat} {v : Value} {m : Mc} (h : OwM w lo hi v m) (hw : Only a b w w') (hd : hi ≤ a ∨ b ≤ lo) (hs : hi ≤ w.heap.size) : OwM w' lo hi v m := by
  obtain ⟨f, b', cs, ls, d, e, a0, a1, a2, a3, a4, a5, g0, g1, g2, g3, g4, g5, g6, h1, h2, h3, h4, h5⟩ := h
  exact ⟨f, b', cs, ls, d, e, a0, a1, a2, a3, a4, a5, g0, g1, g2, g3, g4, g5, g6, OwLL.only h1 hw (by omega) (by omega), OwLL.only h2 hw (by omega) (by omega), h3.only hw (by omega) (by omega), OwIs.only h4 hw (by omega) (by omega), h5.only hw (by omega) (by omega)⟩

end Go.Proofs.YtccdnmafakaleaaDoor
