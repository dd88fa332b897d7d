/-
  Texts joined: McEq, McMark2, MkA, MkB, OpenMc, McLaw0, MkC, MkD.
-/
import Derived.Test.YtmcalioldphfeaaMcTo
import Derived.Test.YtmcalioldphfeaaMcMark
import Derived.Test.YtmcalioldphfeaaPk3
import Derived.Test.YtmcalioldphfeaaMc
/-
  What the laws' szMachine and eqMachine do.
-/
namespace Go.Proofs.Ytmcalioldphfeaa
set_option linter.unusedVariables false
set_option linter.unusedSimpArgs false
open Go.RowKit

theorem szI_any (v : Value) (l : List Int) (left : Int) (w : World) (B : Nat) (hl : RdI w B v l) (h0 : 0 ≤ left) (h1 : left ≤ 1048576) :
    Calls Try.prog 36 #[v, .int .i64 left] w fun e w' => e = .returned (.int .i64 (szOfM left l.length)) ∧ w = w' := by
  obtain ⟨A, n, c, rfl, hln, hl, gl⟩ := hl
  rw [hl.out]
  clear gl
  by_cases h : (n : Int) ≤ left
  · have HS := Lib.hid (show szOfM left n = left - n by simp [szOfM, h])
    go_enter Try.func36, Try.ntmps36
    go_wp2
    go_ret
    exact ⟨ret_int HS.out.symm, rfl⟩
  · have HS := Lib.hid (show szOfM left n = -1 by simp [szOfM, h])
    go_enter Try.func36, Try.ntmps36
    go_wp2
    go_ret
    exact ⟨ret_int HS.out.symm, rfl⟩
theorem szCs_any (v : Value) (l : List Car) (left : Int) (w : World) (B : Nat) (hl : RdCs w B v l) (h0 : 0 ≤ left) (h1 : left ≤ 1048576) :
    Calls Try.prog 34 #[v, .int .i64 left] w fun e w' => e = .returned (.int .i64 (szOfM left l.length)) ∧ w = w' := by
  obtain ⟨A, n, c, rfl, hln, hl, gl⟩ := hl
  rw [hl.out]
  clear gl
  by_cases h : (n : Int) ≤ left
  · have HS := Lib.hid (show szOfM left n = left - n by simp [szOfM, h])
    go_enter Try.func34, Try.ntmps34
    go_wp2
    go_ret
    exact ⟨ret_int HS.out.symm, rfl⟩
  · have HS := Lib.hid (show szOfM left n = -1 by simp [szOfM, h])
    go_enter Try.func34, Try.ntmps34
    go_wp2
    go_ret
    exact ⟨ret_int HS.out.symm, rfl⟩
theorem szInfo_any (x : Inf) (s : Value) (left : Int) (w : World) (hs : RdI w w.heap.size s x.ps) (h0 : 0 ≤ left) (h1 : left ≤ 1048576) :
    Calls Try.prog 80 #[.agg #[.int .i64 x.k, .int .i64 x.y, .int .i64 x.b, .int .i64 x.p, .int .i64 x.d, s], .int .i64 left] w fun e w' => e = .returned (.int .i64 (szOfM left x.ps.length)) ∧ Below w.heap.size w w' := by
  obtain ⟨A0, n0, c0, rfl⟩ := RdI.shape' hs
  have HS := Lib.hid (hs.up' ((Below.refl _ _).alloc (Nat.le_refl _) (.cells #[.int .i64 x.k, .int .i64 x.y, .int .i64 x.b, .int .i64 x.p, .int .i64 x.d, .slice A0 n0 c0] 114)) (by simp))
  clear hs
  by_cases h : (x.ps.length : Int) ≤ left
  · have HZ := Lib.hid (szOfM_yes h)
    rw [HZ.out]
    go_enter Try.func80, Try.ntmps80
    go_wp2_with fail
    refine (szI_any _ x.ps _ _ _ HS.out h0 h1).mono ?_
    rintro e w1 ⟨rfl, rfl⟩
    rw [HZ.out]
    go_wp2
    go_ret
    exact ⟨rfl, (Below.refl _ _).alloc (Nat.le_refl _) _⟩
  · have HZ := Lib.hid (szOfM_no h)
    rw [HZ.out]
    go_enter Try.func80, Try.ntmps80
    go_wp2_with fail
    refine (szI_any _ x.ps _ _ _ HS.out h0 h1).mono ?_
    rintro e w1 ⟨rfl, rfl⟩
    rw [HZ.out]
    go_wp2
    go_ret
    exact ⟨rfl, (Below.refl _ _).alloc (Nat.le_refl _) _⟩

/- a size over a slice whose elements hold slices: szLL theorem · laws.szInt64SS function · List (List Int) the datum's type · RdLL its reading · szLLd its size · List.length an element's · obtain ⟨b, off, x, s, rfl, hbb, hlk, hc, hs⟩ := (RdLL.below HL.out hb).at_ hlt the element taken · have hcell := hc its cells · (szI_any _ x _ _ _ HS.out z0 z1) the element's contract -/
set_option maxHeartbeats 2000000 in
set_option maxRecDepth 100000 in
theorem szLL_any (v : Value) (l : List (List Int)) (left : Int) (w : World) (hl : RdLL w w.heap.size v l) (h0 : 0 ≤ left) (h1 : left ≤ 1048576) :
    Calls Try.prog 33 #[v, .int .i64 left] w fun e w' => e = .returned (.int .i64 (szLLd left l)) ∧ Below w.heap.size w w' := by
  obtain ⟨A, cp, rfl⟩ := hl.shape
  have hbig := RdN.le hl
  have HL := Lib.hid hl
  clear hl
  generalize hR : szLLd left l = R
  have HR := Lib.hid hR
  clear hR
  by_cases hle : (l.length : Int) ≤ left
  · have HD := Lib.hid (show R = szGo List.length (left - l.length) (l.drop 0) by rw [← HR.out]; simp [szLLd, hle])
    clear HR
    generalize hln : l.length = n at *
    have HLN := Lib.hid hln
    clear hln
    go_enter Try.func33, Try.ntmps33
    go_wp2
    go_loopw [1, 5] (fun t i wr => ∃ (k : Nat) (z : Int), k ≤ n ∧ i = .int .i64 k ∧ t = .int .i64 z ∧ 0 ≤ z ∧ z ≤ 1048576 ∧ Hid (R = szGo List.length z (l.drop k)) ∧ Below w.heap.size w wr) (fun _ i _ => n - (intOf i).toNat)
    case atStart => exact ⟨0, left - n, Nat.zero_le _, rfl, rfl, by omega, by omega, HD.out, Below.refl _ _⟩
    case round =>
      rename_i wr
      obtain ⟨k, z, hk, rfl, rfl, z0, z1, hd, hb⟩ := hrel
      clear hle h0 h1
      by_cases hlt : k < n
      · obtain ⟨b, off, x, s, rfl, hbb, hlk, hc, hs⟩ := (RdLL.below HL.out hb).at_ hlt
        have hcell := hc
        obtain ⟨A1, n1, c1, rfl⟩ := RdI.shape' hs
        have HS := Lib.hid (hs.more hb.size)
        have HB := Lib.hid hb
        by_cases hx : ((List.length x : Nat) : Int) ≤ z
        · have HN := Lib.hid (szGo_yes hd.out hlk hx)
          have HZ := Lib.hid (szOfM_yes hx)
          clear hb hlk hs hc hd
          go_wp2_with fail
          refine (szI_any _ x _ _ _ HS.out z0 z1).mono ?_
          rintro e w1 ⟨rfl, hb1⟩
          have HB1 : Hid (Below w.heap.size w w1) := by first | exact Lib.hid (HB.out.trans (hb1.mono HB.out.size)) | (subst hb1; exact HB)
          rw [HZ.out]
          clear hb1
          go_wp2
          exact ⟨⟨k + 1, z - (List.length x : Nat), by omega, by go_num, rfl, by omega, by omega, HN.out, HB1.out⟩, by simp [intOf]; omega⟩
        · have HN := Lib.hid (szGo_no hd.out hlk hx)
          have HZ := Lib.hid (szOfM_no hx)
          clear hb hlk hs hc hd
          go_wp2_with fail
          refine (szI_any _ x _ _ _ HS.out z0 z1).mono ?_
          rintro e w1 ⟨rfl, hb1⟩
          have HB1 : Hid (Below w.heap.size w w1) := by first | exact Lib.hid (HB.out.trans (hb1.mono HB.out.size)) | (subst hb1; exact HB)
          rw [HZ.out]
          clear hb1
          go_wp2
          go_ret
          exact ⟨ret_int HN.out.symm, HB1.out⟩
      · have HB := Lib.hid hb
        have HN := Lib.hid (show R = z by rw [hd.out, List.drop_of_length_le (by have := HLN.out; omega)]; rfl)
        clear hb hd
        go_wp2
        go_ret
        exact ⟨ret_int HN.out.symm, HB.out⟩
  · have HN := Lib.hid (show R = -1 by rw [← HR.out]; simp [szLLd, hle])
    clear HR
    generalize hln : l.length = n at *
    go_enter Try.func33, Try.ntmps33
    go_wp2
    go_ret
    exact ⟨ret_int HN.out.symm, Below.refl _ _⟩
/- a size over a slice whose elements hold slices: szIs theorem · laws.szInfoS function · List Inf the datum's type · RdIs its reading · szIsd its size · infL an element's · obtain ⟨b, off, x, s, rfl, hbb, hlk, hc, hs⟩ := (RdIs.below HL.out hb).at_ hlt the element taken · obtain ⟨e0, e1, e2, e3, e4, e5⟩ := hc.six its cells · ((szInfo_any x _ _ _ (HS.out.more (Nat.le_refl _)) z0 z1)) the element's contract -/
set_option maxHeartbeats 2000000 in
set_option maxRecDepth 100000 in
theorem szIs_any (v : Value) (l : List Inf) (left : Int) (w : World) (hl : RdIs w w.heap.size v l) (h0 : 0 ≤ left) (h1 : left ≤ 1048576) :
    Calls Try.prog 35 #[v, .int .i64 left] w fun e w' => e = .returned (.int .i64 (szIsd left l)) ∧ Below w.heap.size w w' := by
  obtain ⟨A, cp, rfl⟩ := hl.shape
  have hbig := RdN.le hl
  have HL := Lib.hid hl
  clear hl
  generalize hR : szIsd left l = R
  have HR := Lib.hid hR
  clear hR
  by_cases hle : (l.length : Int) ≤ left
  · have HD := Lib.hid (show R = szGo infL (left - l.length) (l.drop 0) by rw [← HR.out]; simp [szIsd, hle])
    clear HR
    generalize hln : l.length = n at *
    have HLN := Lib.hid hln
    clear hln
    go_enter Try.func35, Try.ntmps35
    go_wp2
    go_loopw [1, 5] (fun t i wr => ∃ (k : Nat) (z : Int), k ≤ n ∧ i = .int .i64 k ∧ t = .int .i64 z ∧ 0 ≤ z ∧ z ≤ 1048576 ∧ Hid (R = szGo infL z (l.drop k)) ∧ Below w.heap.size w wr) (fun _ i _ => n - (intOf i).toNat)
    case atStart => exact ⟨0, left - n, Nat.zero_le _, rfl, rfl, by omega, by omega, HD.out, Below.refl _ _⟩
    case round =>
      rename_i wr
      obtain ⟨k, z, hk, rfl, rfl, z0, z1, hd, hb⟩ := hrel
      clear hle h0 h1
      by_cases hlt : k < n
      · obtain ⟨b, off, x, s, rfl, hbb, hlk, hc, hs⟩ := (RdIs.below HL.out hb).at_ hlt
        obtain ⟨e0, e1, e2, e3, e4, e5⟩ := hc.six
        obtain ⟨A1, n1, c1, rfl⟩ := RdI.shape' hs
        have HS := Lib.hid (hs.more hb.size)
        have HB := Lib.hid hb
        by_cases hx : ((infL x : Nat) : Int) ≤ z
        · have HN := Lib.hid (szGo_yes hd.out hlk hx)
          have HZ := Lib.hid (szOfM_yes hx)
          clear hb hlk hs hc hd
          go_wp2_with fail
          refine ((szInfo_any x _ _ _ (HS.out.more (Nat.le_refl _)) z0 z1)).mono ?_
          rintro e w1 ⟨rfl, hb1⟩
          have HB1 : Hid (Below w.heap.size w w1) := by first | exact Lib.hid (HB.out.trans (hb1.mono HB.out.size)) | (subst hb1; exact HB)
          rw [HZ.out]
          clear hb1
          go_wp2
          exact ⟨⟨k + 1, z - (infL x : Nat), by omega, by go_num, rfl, by omega, by omega, HN.out, HB1.out⟩, by simp [intOf]; omega⟩
        · have HN := Lib.hid (szGo_no hd.out hlk hx)
          have HZ := Lib.hid (szOfM_no hx)
          clear hb hlk hs hc hd
          go_wp2_with fail
          refine ((szInfo_any x _ _ _ (HS.out.more (Nat.le_refl _)) z0 z1)).mono ?_
          rintro e w1 ⟨rfl, hb1⟩
          have HB1 : Hid (Below w.heap.size w w1) := by first | exact Lib.hid (HB.out.trans (hb1.mono HB.out.size)) | (subst hb1; exact HB)
          rw [HZ.out]
          clear hb1
          go_wp2
          go_ret
          exact ⟨ret_int HN.out.symm, HB1.out⟩
      · have HB := Lib.hid hb
        have HN := Lib.hid (show R = z by rw [hd.out, List.drop_of_length_le (by have := HLN.out; omega)]; rfl)
        clear hb hd
        go_wp2
        go_ret
        exact ⟨ret_int HN.out.symm, HB.out⟩
  · have HN := Lib.hid (show R = -1 by rw [← HR.out]; simp [szIsd, hle])
    clear HR
    generalize hln : l.length = n at *
    go_enter Try.func35, Try.ntmps35
    go_wp2
    go_ret
    exact ⟨ret_int HN.out.symm, Below.refl _ _⟩

/-- What szM is, step by step. -/
theorem szM_steps {m : Mc} {z1 z2 z3 z4 z5 : Int} (e1 : szLLd 1048576 m.fr = z1) (e2 : szLLd z1 m.bk = z2) (e3 : szOfM z2 m.cs.length = z3) (e4 : szIsd z3 m.ls = z4) (e5 : szOfM z4 m.dr.length = z5) :
    szM 1048576 m = if z1 < 0 then -1 else if z2 < 0 then -1 else if z3 < 0 then -1 else if z4 < 0 then -1 else z5 := by
  subst e1 e2 e3 e4 e5
  rfl
theorem szLLd_lo {left : Int} {l : List (List Int)} (h : 0 ≤ left) (h1 : left ≤ 1048576) : -1 ≤ szLLd left l ∧ szLLd left l ≤ 1048576 := by
  unfold szLLd; split
  · exact szGo_lo _ l _ (by omega) (by omega)
  · omega
theorem szIsd_lo {left : Int} {l : List Inf} (h : 0 ≤ left) (h1 : left ≤ 1048576) : -1 ≤ szIsd left l ∧ szIsd left l ≤ 1048576 := by
  unfold szIsd; split
  · exact szGo_lo _ l _ (by omega) (by omega)
  · omega

set_option maxHeartbeats 4000000 in
set_option maxRecDepth 100000 in
theorem szMachine_any (v : Value) (m : Mc) (w : World) (hl : RdM w w.heap.size v m) :
    Calls Try.prog 8 #[v, .int .i64 1048576] w fun e w' => e = .returned (.int .i64 (szM 1048576 m)) ∧ Below w.heap.size w w' := by
  obtain ⟨f, b, cs, ls, d, rfl, h1, h2, h3, h4, h5, h6⟩ := hl
  obtain ⟨AF, cF, rfl⟩ := RdN.shape h1
  obtain ⟨AG, cG, rfl⟩ := RdN.shape h2
  obtain ⟨AC, cC, rfl⟩ := RdS.lens h3
  obtain ⟨AI, cI, rfl⟩ := RdN.shape h4
  obtain ⟨AD, cD, rfl⟩ := RdI.len h5
  have HF := Lib.hid h1
  have HG := Lib.hid h2
  have HC := Lib.hid h3
  have HI := Lib.hid h4
  have HD := Lib.hid h5
  clear h1 h2 h3 h4 h5 h6
  obtain ⟨z1, e1⟩ : ∃ z, szLLd 1048576 m.fr = z := ⟨_, rfl⟩
  obtain ⟨z2, e2⟩ : ∃ z, szLLd z1 m.bk = z := ⟨_, rfl⟩
  obtain ⟨z3, e3⟩ : ∃ z, szOfM z2 m.cs.length = z := ⟨_, rfl⟩
  obtain ⟨z4, e4⟩ : ∃ z, szIsd z3 m.ls = z := ⟨_, rfl⟩
  obtain ⟨z5, e5⟩ : ∃ z, szOfM z4 m.dr.length = z := ⟨_, rfl⟩
  have HZ := Lib.hid (szM_steps e1 e2 e3 e4 e5)
  have E1 := Lib.hid e1
  have E2 := Lib.hid e2
  have E3 := Lib.hid e3
  have E4 := Lib.hid e4
  have E5 := Lib.hid e5
  clear e1 e2 e3 e4 e5
  have hcl : ∀ w1, Below (w.alloc (.cells #[.int .i64 m.wd, .int .i64 m.rk, .slice AF m.fr.length cF, .slice AG m.bk.length cG, .slice AC m.cs.length cC, .slice AI m.ls.length cI, .slice AD m.dr.length cD] 27)).heap.size (w.alloc (.cells #[.int .i64 m.wd, .int .i64 m.rk, .slice AF m.fr.length cF, .slice AG m.bk.length cG, .slice AC m.cs.length cC, .slice AI m.ls.length cI, .slice AD m.dr.length cD] 27)) w1 → CellsAt w1 w.heap.size 0 [.int .i64 m.wd, .int .i64 m.rk, .slice AF m.fr.length cF, .slice AG m.bk.length cG, .slice AC m.cs.length cC, .slice AI m.ls.length cI, .slice AD m.dr.length cD] := fun w1 hb => (CellsAt.of_alloc (us := [.int .i64 m.wd, .int .i64 m.rk, .slice AF m.fr.length cF, .slice AG m.bk.length cG, .slice AC m.cs.length cC, .slice AI m.ls.length cI, .slice AD m.dr.length cD])).below hb (by simp)
  have B0 := Lib.hid (Below.refl (w.alloc (.cells #[.int .i64 m.wd, .int .i64 m.rk, .slice AF m.fr.length cF, .slice AG m.bk.length cG, .slice AC m.cs.length cC, .slice AI m.ls.length cI, .slice AD m.dr.length cD] 27)).heap.size (w.alloc (.cells #[.int .i64 m.wd, .int .i64 m.rk, .slice AF m.fr.length cF, .slice AG m.bk.length cG, .slice AC m.cs.length cC, .slice AI m.ls.length cI, .slice AD m.dr.length cD] 27)))
  have Bw : Below w.heap.size w (w.alloc (.cells #[.int .i64 m.wd, .int .i64 m.rk, .slice AF m.fr.length cF, .slice AG m.bk.length cG, .slice AC m.cs.length cC, .slice AI m.ls.length cI, .slice AD m.dr.length cD] 27)) := (Below.refl _ _).alloc (Nat.le_refl _) _
  have BW := Lib.hid Bw
  clear Bw
  go_enter Try.func8, Try.ntmps8
  go_wp2_with fail
  refine (szLL_any _ m.fr _ _ (RdLL.up HF.out (BW.out.trans (B0.out.mono (by simp))) (BW.out.trans (B0.out.mono (by simp))).size) (by omega) (by omega)).mono ?_
  rintro e w1 ⟨rfl, hb⟩
  rw [E1.out]
  have B1 := Lib.hid (B0.out.trans (hb.mono B0.out.size))
  clear hb
  obtain ⟨l1, u1⟩ : -1 ≤ z1 ∧ z1 ≤ 1048576 := by rw [← E1.out]; exact szLLd_lo (by omega) (by omega)
  by_cases p1 : z1 < 0
  · have hq := Lib.hid (show szM 1048576 m = -1 by rw [HZ.out, if_pos (show z1 < 0 by omega)])
    go_wp2
    go_ret
    exact ⟨ret_int hq.out.symm, (BW.out.trans (B1.out.mono (by simp)))⟩
  obtain ⟨x0, x1, x2, x3, x4, x5, x6⟩ := (hcl _ B1.out).seven
  go_wp2_with fail
  clear x0 x1 x2 x3 x4 x5 x6
  refine (szLL_any _ m.bk _ _ (RdLL.up HG.out (BW.out.trans (B1.out.mono (by simp))) (BW.out.trans (B1.out.mono (by simp))).size) (by omega) (by omega)).mono ?_
  rintro e w2 ⟨rfl, hb⟩
  rw [E2.out]
  have B2 := Lib.hid (B1.out.trans (hb.mono B1.out.size))
  clear hb
  obtain ⟨l2, u2⟩ : -1 ≤ z2 ∧ z2 ≤ 1048576 := by rw [← E2.out]; exact szLLd_lo (by omega) (by omega)
  by_cases p2 : z2 < 0
  · have hq := Lib.hid (show szM 1048576 m = -1 by rw [HZ.out, if_neg (show ¬ z1 < 0 by omega), if_pos (show z2 < 0 by omega)])
    go_wp2
    go_ret
    exact ⟨ret_int hq.out.symm, (BW.out.trans (B2.out.mono (by simp)))⟩
  obtain ⟨x0, x1, x2, x3, x4, x5, x6⟩ := (hcl _ B2.out).seven
  go_wp2_with fail
  clear x0 x1 x2 x3 x4 x5 x6
  refine (szCs_any _ m.cs _ _ _ (RdCs.up HC.out (BW.out.trans (B2.out.mono (by simp))) (BW.out.trans (B2.out.mono (by simp))).size) (by omega) (by omega)).mono ?_
  rintro e w3 ⟨rfl, rfl⟩
  rw [E3.out]
  have B3 := B2
  obtain ⟨l3, u3⟩ : -1 ≤ z3 ∧ z3 ≤ 1048576 := by rw [← E3.out]; exact szOfM_lo (by omega) (by omega)
  by_cases p3 : z3 < 0
  · have hq := Lib.hid (show szM 1048576 m = -1 by rw [HZ.out, if_neg (show ¬ z1 < 0 by omega), if_neg (show ¬ z2 < 0 by omega), if_pos (show z3 < 0 by omega)])
    go_wp2
    go_ret
    exact ⟨ret_int hq.out.symm, (BW.out.trans (B3.out.mono (by simp)))⟩
  obtain ⟨x0, x1, x2, x3, x4, x5, x6⟩ := (hcl _ B3.out).seven
  go_wp2_with fail
  clear x0 x1 x2 x3 x4 x5 x6
  refine (szIs_any _ m.ls _ _ (RdIs.up HI.out (BW.out.trans (B3.out.mono (by simp))) (BW.out.trans (B3.out.mono (by simp))).size) (by omega) (by omega)).mono ?_
  rintro e w4 ⟨rfl, hb⟩
  rw [E4.out]
  have B4 := Lib.hid (B3.out.trans (hb.mono B3.out.size))
  clear hb
  obtain ⟨l4, u4⟩ : -1 ≤ z4 ∧ z4 ≤ 1048576 := by rw [← E4.out]; exact szIsd_lo (by omega) (by omega)
  by_cases p4 : z4 < 0
  · have hq := Lib.hid (show szM 1048576 m = -1 by rw [HZ.out, if_neg (show ¬ z1 < 0 by omega), if_neg (show ¬ z2 < 0 by omega), if_neg (show ¬ z3 < 0 by omega), if_pos (show z4 < 0 by omega)])
    go_wp2
    go_ret
    exact ⟨ret_int hq.out.symm, (BW.out.trans (B4.out.mono (by simp)))⟩
  obtain ⟨x0, x1, x2, x3, x4, x5, x6⟩ := (hcl _ B4.out).seven
  go_wp2_with fail
  clear x0 x1 x2 x3 x4 x5 x6
  refine (szI_any _ m.dr _ _ _ (RdI.up' HD.out (BW.out.trans (B4.out.mono (by simp))) (BW.out.trans (B4.out.mono (by simp))).size) (by omega) (by omega)).mono ?_
  rintro e w5 ⟨rfl, rfl⟩
  rw [E5.out]
  have B5 := B4
  obtain ⟨l5, u5⟩ : -1 ≤ z5 ∧ z5 ≤ 1048576 := by rw [← E5.out]; exact szOfM_lo (by omega) (by omega)
  by_cases p5 : z5 < 0
  · have hq := Lib.hid (show szM 1048576 m = -1 by rw [HZ.out, if_neg (show ¬ z1 < 0 by omega), if_neg (show ¬ z2 < 0 by omega), if_neg (show ¬ z3 < 0 by omega), if_neg (show ¬ z4 < 0 by omega)]; omega)
    go_wp2
    go_ret
    exact ⟨ret_int hq.out.symm, (BW.out.trans (B5.out.mono (by simp)))⟩
  have hq := Lib.hid (show szM 1048576 m = z5 by rw [HZ.out, if_neg (show ¬ z1 < 0 by omega), if_neg (show ¬ z2 < 0 by omega), if_neg (show ¬ z3 < 0 by omega), if_neg (show ¬ z4 < 0 by omega)])
  go_wp2
  go_ret
  exact ⟨ret_int hq.out.symm, (BW.out.trans (B5.out.mono (by simp)))⟩

/-! ### The laws compare machines with machines that are alike -/
theorem eqI_same (v u : Value) (l : List Int) (w : World) (hl : RdI w w.heap.size v l) (hm : RdI w w.heap.size u l) :
    Calls Try.prog 50 #[v, u] w fun x w' => x = .returned (.bool true) ∧ Below w.heap.size w w' :=
  (eqInt64S_any v u l l w _ hl hm (Nat.le_refl _)).mono fun e w' ⟨h1, h2⟩ => ⟨by rw [h1]; simp, h2⟩
theorem eqCarrier_same (c : Car) (w : World) : Calls Try.prog 106 #[.agg #[.bool c.i, .int .i64 c.p], .agg #[.bool c.i, .int .i64 c.p]] w fun x w' => x = .returned (.bool true) ∧ Below w.heap.size w w' := by
  obtain ⟨b, p⟩ := c
  cases b
  all_goals
    go_enter Try.func106, Try.ntmps106
    go_wp2
    go_ret
    exact ⟨rfl, ((Below.refl _ _).alloc (Nat.le_refl _) _).alloc (by simp) _⟩
set_option maxHeartbeats 1000000 in
theorem eqInfo_same (x : Inf) (s t : Value) (w : World) (hs : RdI w w.heap.size s x.ps) (ht : RdI w w.heap.size t x.ps) :
    Calls Try.prog 107 #[.agg #[.int .i64 x.k, .int .i64 x.y, .int .i64 x.b, .int .i64 x.p, .int .i64 x.d, s], .agg #[.int .i64 x.k, .int .i64 x.y, .int .i64 x.b, .int .i64 x.p, .int .i64 x.d, t]] w fun e w' => e = .returned (.bool true) ∧ Below w.heap.size w w' := by
  obtain ⟨A0, n0, c0, rfl⟩ := RdI.shape' hs
  obtain ⟨A1, n1, c1, rfl⟩ := RdI.shape' ht
  have HS := Lib.hid hs
  have HT := Lib.hid ht
  clear hs ht
  go_enter Try.func107, Try.ntmps107
  go_wp2_with fail
  refine (eqI_same _ _ x.ps _ (HS.out.up' (((Below.refl _ _).alloc (Nat.le_refl _) _).alloc (by simp) _) (by simp; omega)) (HT.out.up' (((Below.refl _ _).alloc (Nat.le_refl _) _).alloc (by simp) _) (by simp; omega))).mono ?_
  rintro e w1 ⟨rfl, hb⟩
  have HB := Lib.hid ((((Below.refl _ _).alloc (Nat.le_refl _) _).alloc (by simp) _).trans (hb.mono (by simp; omega)))
  clear hb
  go_wp2
  go_ret
  exact ⟨rfl, HB.out⟩

/- two slices whose elements hold slices, alike: eqLL theorem · laws.eqInt64SS function · List (List Int) the datum's type · RdLL its reading · obtain ⟨b, off, x, s, rfl, hbb, hlk, hc, hs⟩ := (RdLL.below HL.out hb).at_ hlt, obtain ⟨b', off', x', t, rfl, hbb', hlk', hc', ht⟩ := (RdLL.below HM.out hb).at_ hlt the elements taken · have e0 := fun X => wgrow_cell (x := X) hc; have f0 := fun X => wgrow_cell (x := X) hc' their cells in grown worlds · laws.eqInt64S the element's comparison · (eqI_same _ _ x _ (HS _).out (HT _).out) its contract -/
set_option maxHeartbeats 2000000 in
set_option maxRecDepth 100000 in
theorem eqLL_same (v u : Value) (l : List (List Int)) (w : World) (hl : RdLL w w.heap.size v l) (hm : RdLL w w.heap.size u l) :
    Calls Try.prog 47 #[v, u] w fun x w' => x = .returned (.bool true) ∧ Below w.heap.size w w' := by
  obtain ⟨A, cp, rfl⟩ := RdN.shape hl
  obtain ⟨A', cp', rfl⟩ := RdN.shape hm
  have hbig := RdN.le hl
  have HL := Lib.hid hl
  have HM := Lib.hid hm
  clear hl hm
  generalize hln : l.length = n at *
  go_enter Try.func47, Try.ntmps47
  go_wp2
  go_loopw [5] (fun i wr => ∃ k : Nat, k ≤ n ∧ i = .int .i64 k ∧ Below w.heap.size w wr) (fun i _ => n - (intOf i).toNat)
  case atStart => exact ⟨0, Nat.zero_le _, rfl, Below.refl _ _⟩
  case round =>
    rename_i wr
    obtain ⟨k, hk, rfl, hb⟩ := hrel
    by_cases hlt : k < n
    · obtain ⟨b, off, x, s, rfl, hbb, hlk, hc, hs⟩ := (RdLL.below HL.out hb).at_ hlt
      obtain ⟨b', off', x', t, rfl, hbb', hlk', hc', ht⟩ := (RdLL.below HM.out hb).at_ hlt
      obtain rfl : x = x' := by rw [hlk] at hlk'; injection hlk'
      obtain ⟨A1, n1, c1, rfl⟩ := RdI.shape' hs
      obtain ⟨A2, n2, c2, rfl⟩ := RdI.shape' ht
      have hs1 := hs.more hb.size
      have ht1 := ht.more hb.size
      have HS := fun X => Lib.hid (hs1.up' (below_wgrow wr X) (below_wgrow wr X).size)
      have HT := fun X => Lib.hid (ht1.up' (below_wgrow wr X) (below_wgrow wr X).size)
      have e0 := fun X => wgrow_cell (x := X) hc; have f0 := fun X => wgrow_cell (x := X) hc'
      have HB := Lib.hid hb
      clear hc hc' hlk hlk' hb hs ht hs1 ht1
      go_wp2
      refine wp_region_grow (by kernel_rfl) (by kernel_rfl) ?_
      repeat (go_big_quiet_step ((go_at_call 50; exact calls_grow (eqI_same _ _ x _ (HS _).out (HT _).out))))
      refine wpQuiet_nil ?_
      intro w1 hb1
      have HB1 := HB.out.trans (hb1.mono HB.out.size)
      go_wp2
      exact ⟨⟨k + 1, by omega, by go_num, HB1⟩, by simp [intOf]; omega⟩
    · go_wp2
      go_ret
      exact ⟨rfl, hb⟩
/- two slices whose elements hold slices, alike: eqIs theorem · laws.eqInfoS function · List Inf the datum's type · RdIs its reading · obtain ⟨b, off, x, s, rfl, hbb, hlk, hc, hs⟩ := (RdIs.below HL.out hb).at_ hlt, obtain ⟨b', off', x', t, rfl, hbb', hlk', hc', ht⟩ := (RdIs.below HM.out hb).at_ hlt the elements taken · obtain ⟨e0, e1, e2, e3, e4, e5⟩ := hc.grow6; obtain ⟨f0, f1, f2, f3, f4, f5⟩ := hc'.grow6 their cells in grown worlds · laws.eqInfo the element's comparison · (eqInfo_same x _ _ _ (HS _).out (HT _).out) its contract -/
set_option maxHeartbeats 2000000 in
set_option maxRecDepth 100000 in
theorem eqIs_same (v u : Value) (l : List Inf) (w : World) (hl : RdIs w w.heap.size v l) (hm : RdIs w w.heap.size u l) :
    Calls Try.prog 49 #[v, u] w fun x w' => x = .returned (.bool true) ∧ Below w.heap.size w w' := by
  obtain ⟨A, cp, rfl⟩ := RdN.shape hl
  obtain ⟨A', cp', rfl⟩ := RdN.shape hm
  have hbig := RdN.le hl
  have HL := Lib.hid hl
  have HM := Lib.hid hm
  clear hl hm
  generalize hln : l.length = n at *
  go_enter Try.func49, Try.ntmps49
  go_wp2
  go_loopw [5] (fun i wr => ∃ k : Nat, k ≤ n ∧ i = .int .i64 k ∧ Below w.heap.size w wr) (fun i _ => n - (intOf i).toNat)
  case atStart => exact ⟨0, Nat.zero_le _, rfl, Below.refl _ _⟩
  case round =>
    rename_i wr
    obtain ⟨k, hk, rfl, hb⟩ := hrel
    by_cases hlt : k < n
    · obtain ⟨b, off, x, s, rfl, hbb, hlk, hc, hs⟩ := (RdIs.below HL.out hb).at_ hlt
      obtain ⟨b', off', x', t, rfl, hbb', hlk', hc', ht⟩ := (RdIs.below HM.out hb).at_ hlt
      obtain rfl : x = x' := by rw [hlk] at hlk'; injection hlk'
      obtain ⟨A1, n1, c1, rfl⟩ := RdI.shape' hs
      obtain ⟨A2, n2, c2, rfl⟩ := RdI.shape' ht
      have hs1 := hs.more hb.size
      have ht1 := ht.more hb.size
      have HS := fun X => Lib.hid (hs1.up' (below_wgrow wr X) (below_wgrow wr X).size)
      have HT := fun X => Lib.hid (ht1.up' (below_wgrow wr X) (below_wgrow wr X).size)
      obtain ⟨e0, e1, e2, e3, e4, e5⟩ := hc.grow6; obtain ⟨f0, f1, f2, f3, f4, f5⟩ := hc'.grow6
      have HB := Lib.hid hb
      clear hc hc' hlk hlk' hb hs ht hs1 ht1
      go_wp2
      refine wp_region_grow (by kernel_rfl) (by kernel_rfl) ?_
      repeat (go_big_quiet_step ((go_at_call 107; exact calls_grow (eqInfo_same x _ _ _ (HS _).out (HT _).out))))
      refine wpQuiet_nil ?_
      intro w1 hb1
      have HB1 := HB.out.trans (hb1.mono HB.out.size)
      go_wp2
      exact ⟨⟨k + 1, by omega, by go_num, HB1⟩, by simp [intOf]; omega⟩
    · go_wp2
      go_ret
      exact ⟨rfl, hb⟩

set_option maxHeartbeats 1000000 in
theorem eqCs_same (v u : Value) (l : List Car) (w : World) (hl : RdCs w w.heap.size v l) (hm : RdCs w w.heap.size u l) :
    Calls Try.prog 48 #[v, u] w fun x w' => x = .returned (.bool true) ∧ Below w.heap.size w w' := by
  obtain ⟨A, n, c, rfl, hln, hl, gl⟩ := hl
  obtain ⟨A', n', c', rfl, hmn, hm, gm⟩ := hm
  obtain rfl : n' = n := hm.out.symm.trans hl.out
  go_enter Try.func48, Try.ntmps48
  go_wp2
  go_loopw [5] (fun i wr => ∃ k : Nat, k ≤ n' ∧ i = .int .i64 k ∧ Below w.heap.size w wr) (fun i _ => n' - (intOf i).toNat)
  case atStart => exact ⟨0, Nat.zero_le _, rfl, Below.refl _ _⟩
  case round =>
    rename_i wr
    obtain ⟨k, hk, rfl, hb⟩ := hrel
    by_cases hlt : k < n'
    · obtain ⟨b, off, x, rfl, hbb, hlk, hc⟩ := gl k hlt
      obtain ⟨b', off', y, rfl, hbb', hmk, hc'⟩ := gm k hlt
      obtain rfl : x = y := by rw [hlk] at hmk; injection hmk
      obtain ⟨e0, e1⟩ := (hc.below hb hbb).grow2
      obtain ⟨f0, f1⟩ := (hc'.below hb hbb').grow2
      have HB := Lib.hid hb
      clear hc hc' hlk hmk hb gl gm
      go_wp2
      refine wp_region_grow (by kernel_rfl) (by kernel_rfl) ?_
      repeat (go_big_quiet_step ((go_at_call 106; exact calls_grow (eqCarrier_same _ _))))
      refine wpQuiet_nil ?_
      intro w1 hb1
      have HB1 := HB.out.trans (hb1.mono HB.out.size)
      go_wp2
      exact ⟨⟨k + 1, by omega, by go_num, HB1⟩, by simp [intOf]; omega⟩
    · go_wp2
      go_ret
      exact ⟨rfl, hb⟩

set_option maxHeartbeats 4000000 in
set_option maxRecDepth 100000 in
theorem eqMachine_same (v u : Value) (m : Mc) (w : World) (hl : RdM w w.heap.size v m) (hm : RdM w w.heap.size u m) :
    Calls Try.prog 12 #[v, u] w fun x w' => x = .returned (.bool true) ∧ Below w.heap.size w w' := by
  obtain ⟨f, b, cs, ls, d, rfl, h1, h2, h3, h4, h5, h6⟩ := hl
  obtain ⟨AF, cF, rfl⟩ := RdN.shape h1
  obtain ⟨AG, cG, rfl⟩ := RdN.shape h2
  obtain ⟨AC, cC, rfl⟩ := RdS.lens h3
  obtain ⟨AI, cI, rfl⟩ := RdN.shape h4
  obtain ⟨AD, cD, rfl⟩ := RdI.len h5
  have HF := Lib.hid h1
  have HG := Lib.hid h2
  have HC := Lib.hid h3
  have HI := Lib.hid h4
  have HD := Lib.hid h5
  clear h1 h2 h3 h4 h5 h6
  obtain ⟨f, b, cs, ls, d, rfl, h1, h2, h3, h4, h5, h6⟩ := hm
  obtain ⟨BF, dF, rfl⟩ := RdN.shape h1
  obtain ⟨BG, dG, rfl⟩ := RdN.shape h2
  obtain ⟨BC, dC, rfl⟩ := RdS.lens h3
  obtain ⟨BI, dI, rfl⟩ := RdN.shape h4
  obtain ⟨BD, dD, rfl⟩ := RdI.len h5
  have JF := Lib.hid h1
  have JG := Lib.hid h2
  have JC := Lib.hid h3
  have JI := Lib.hid h4
  have JD := Lib.hid h5
  clear h1 h2 h3 h4 h5 h6
  have hcl : ∀ w1, Below ((w.alloc (.cells #[.int .i64 m.wd, .int .i64 m.rk, .slice AF m.fr.length cF, .slice AG m.bk.length cG, .slice AC m.cs.length cC, .slice AI m.ls.length cI, .slice AD m.dr.length cD] 32)).alloc (.cells #[.int .i64 m.wd, .int .i64 m.rk, .slice BF m.fr.length dF, .slice BG m.bk.length dG, .slice BC m.cs.length dC, .slice BI m.ls.length dI, .slice BD m.dr.length dD] 32)).heap.size ((w.alloc (.cells #[.int .i64 m.wd, .int .i64 m.rk, .slice AF m.fr.length cF, .slice AG m.bk.length cG, .slice AC m.cs.length cC, .slice AI m.ls.length cI, .slice AD m.dr.length cD] 32)).alloc (.cells #[.int .i64 m.wd, .int .i64 m.rk, .slice BF m.fr.length dF, .slice BG m.bk.length dG, .slice BC m.cs.length dC, .slice BI m.ls.length dI, .slice BD m.dr.length dD] 32)) w1 → CellsAt w1 w.heap.size 0 [.int .i64 m.wd, .int .i64 m.rk, .slice AF m.fr.length cF, .slice AG m.bk.length cG, .slice AC m.cs.length cC, .slice AI m.ls.length cI, .slice AD m.dr.length cD] := fun w1 hb => ((CellsAt.of_alloc (us := [.int .i64 m.wd, .int .i64 m.rk, .slice AF m.fr.length cF, .slice AG m.bk.length cG, .slice AC m.cs.length cC, .slice AI m.ls.length cI, .slice AD m.dr.length cD])).alloc (by simp) _).below hb (by simp; omega)
  have hcm : ∀ w1, Below ((w.alloc (.cells #[.int .i64 m.wd, .int .i64 m.rk, .slice AF m.fr.length cF, .slice AG m.bk.length cG, .slice AC m.cs.length cC, .slice AI m.ls.length cI, .slice AD m.dr.length cD] 32)).alloc (.cells #[.int .i64 m.wd, .int .i64 m.rk, .slice BF m.fr.length dF, .slice BG m.bk.length dG, .slice BC m.cs.length dC, .slice BI m.ls.length dI, .slice BD m.dr.length dD] 32)).heap.size ((w.alloc (.cells #[.int .i64 m.wd, .int .i64 m.rk, .slice AF m.fr.length cF, .slice AG m.bk.length cG, .slice AC m.cs.length cC, .slice AI m.ls.length cI, .slice AD m.dr.length cD] 32)).alloc (.cells #[.int .i64 m.wd, .int .i64 m.rk, .slice BF m.fr.length dF, .slice BG m.bk.length dG, .slice BC m.cs.length dC, .slice BI m.ls.length dI, .slice BD m.dr.length dD] 32)) w1 → CellsAt w1 (w.heap.size + 1) 0 [.int .i64 m.wd, .int .i64 m.rk, .slice BF m.fr.length dF, .slice BG m.bk.length dG, .slice BC m.cs.length dC, .slice BI m.ls.length dI, .slice BD m.dr.length dD] := fun w1 hb => by
    have h := CellsAt.of_alloc (w := (w.alloc (.cells #[.int .i64 m.wd, .int .i64 m.rk, .slice AF m.fr.length cF, .slice AG m.bk.length cG, .slice AC m.cs.length cC, .slice AI m.ls.length cI, .slice AD m.dr.length cD] 32))) (us := [.int .i64 m.wd, .int .i64 m.rk, .slice BF m.fr.length dF, .slice BG m.bk.length dG, .slice BC m.cs.length dC, .slice BI m.ls.length dI, .slice BD m.dr.length dD]) (t := 32)
    simp only [World.size_alloc] at h
    exact h.below hb (by simp)
  have B0 := Lib.hid (Below.refl ((w.alloc (.cells #[.int .i64 m.wd, .int .i64 m.rk, .slice AF m.fr.length cF, .slice AG m.bk.length cG, .slice AC m.cs.length cC, .slice AI m.ls.length cI, .slice AD m.dr.length cD] 32)).alloc (.cells #[.int .i64 m.wd, .int .i64 m.rk, .slice BF m.fr.length dF, .slice BG m.bk.length dG, .slice BC m.cs.length dC, .slice BI m.ls.length dI, .slice BD m.dr.length dD] 32)).heap.size ((w.alloc (.cells #[.int .i64 m.wd, .int .i64 m.rk, .slice AF m.fr.length cF, .slice AG m.bk.length cG, .slice AC m.cs.length cC, .slice AI m.ls.length cI, .slice AD m.dr.length cD] 32)).alloc (.cells #[.int .i64 m.wd, .int .i64 m.rk, .slice BF m.fr.length dF, .slice BG m.bk.length dG, .slice BC m.cs.length dC, .slice BI m.ls.length dI, .slice BD m.dr.length dD] 32)))
  have Bw : Below w.heap.size w ((w.alloc (.cells #[.int .i64 m.wd, .int .i64 m.rk, .slice AF m.fr.length cF, .slice AG m.bk.length cG, .slice AC m.cs.length cC, .slice AI m.ls.length cI, .slice AD m.dr.length cD] 32)).alloc (.cells #[.int .i64 m.wd, .int .i64 m.rk, .slice BF m.fr.length dF, .slice BG m.bk.length dG, .slice BC m.cs.length dC, .slice BI m.ls.length dI, .slice BD m.dr.length dD] 32)) := ((Below.refl _ _).alloc (Nat.le_refl _) _).alloc (by simp) _
  have BW := Lib.hid Bw
  clear Bw
  go_enter Try.func12, Try.ntmps12
  go_wp2_with fail
  refine (eqLL_same _ _ m.fr _ (RdLL.up HF.out (BW.out.trans (B0.out.mono (by simp; try omega))) (BW.out.trans (B0.out.mono (by simp; try omega))).size) (RdLL.up JF.out (BW.out.trans (B0.out.mono (by simp; try omega))) (BW.out.trans (B0.out.mono (by simp; try omega))).size)).mono ?_
  rintro e w1 ⟨rfl, hb⟩
  have B1 := Lib.hid (B0.out.trans (hb.mono B0.out.size))
  clear hb
  obtain ⟨x0, x1, x2, x3, x4, x5, x6⟩ := (hcl _ B1.out).seven
  obtain ⟨y0, y1, y2, y3, y4, y5, y6⟩ := (hcm _ B1.out).seven
  go_wp2_with fail
  clear x0 x1 x2 x3 x4 x5 x6 y0 y1 y2 y3 y4 y5 y6
  refine (eqLL_same _ _ m.bk _ (RdLL.up HG.out (BW.out.trans (B1.out.mono (by simp; try omega))) (BW.out.trans (B1.out.mono (by simp; try omega))).size) (RdLL.up JG.out (BW.out.trans (B1.out.mono (by simp; try omega))) (BW.out.trans (B1.out.mono (by simp; try omega))).size)).mono ?_
  rintro e w2 ⟨rfl, hb⟩
  have B2 := Lib.hid (B1.out.trans (hb.mono B1.out.size))
  clear hb
  obtain ⟨x0, x1, x2, x3, x4, x5, x6⟩ := (hcl _ B2.out).seven
  obtain ⟨y0, y1, y2, y3, y4, y5, y6⟩ := (hcm _ B2.out).seven
  go_wp2_with fail
  clear x0 x1 x2 x3 x4 x5 x6 y0 y1 y2 y3 y4 y5 y6
  refine (eqCs_same _ _ m.cs _ (RdCs.up HC.out (BW.out.trans (B2.out.mono (by simp; try omega))) (BW.out.trans (B2.out.mono (by simp; try omega))).size) (RdCs.up JC.out (BW.out.trans (B2.out.mono (by simp; try omega))) (BW.out.trans (B2.out.mono (by simp; try omega))).size)).mono ?_
  rintro e w3 ⟨rfl, hb⟩
  have B3 := Lib.hid (B2.out.trans (hb.mono B2.out.size))
  clear hb
  obtain ⟨x0, x1, x2, x3, x4, x5, x6⟩ := (hcl _ B3.out).seven
  obtain ⟨y0, y1, y2, y3, y4, y5, y6⟩ := (hcm _ B3.out).seven
  go_wp2_with fail
  clear x0 x1 x2 x3 x4 x5 x6 y0 y1 y2 y3 y4 y5 y6
  refine (eqIs_same _ _ m.ls _ (RdIs.up HI.out (BW.out.trans (B3.out.mono (by simp; try omega))) (BW.out.trans (B3.out.mono (by simp; try omega))).size) (RdIs.up JI.out (BW.out.trans (B3.out.mono (by simp; try omega))) (BW.out.trans (B3.out.mono (by simp; try omega))).size)).mono ?_
  rintro e w4 ⟨rfl, hb⟩
  have B4 := Lib.hid (B3.out.trans (hb.mono B3.out.size))
  clear hb
  obtain ⟨x0, x1, x2, x3, x4, x5, x6⟩ := (hcl _ B4.out).seven
  obtain ⟨y0, y1, y2, y3, y4, y5, y6⟩ := (hcm _ B4.out).seven
  go_wp2_with fail
  clear x0 x1 x2 x3 x4 x5 x6 y0 y1 y2 y3 y4 y5 y6
  refine (eqI_same _ _ m.dr _ (RdI.up' HD.out (BW.out.trans (B4.out.mono (by simp; try omega))) (BW.out.trans (B4.out.mono (by simp; try omega))).size) (RdI.up' JD.out (BW.out.trans (B4.out.mono (by simp; try omega))) (BW.out.trans (B4.out.mono (by simp; try omega))).size)).mono ?_
  rintro e w5 ⟨rfl, hb⟩
  have B5 := Lib.hid (B4.out.trans (hb.mono B4.out.size))
  clear hb
  go_wp2
  go_ret
  exact ⟨rfl, (BW.out.trans (B5.out.mono (by simp; try omega)))⟩

end Go.Proofs.Ytmcalioldphfeaa

/-
  Rows of rows as a result, in the laws: marked, and held.
-/
namespace Go.Proofs.Ytmcalioldphfeaa
set_option linter.unusedVariables false
set_option linter.unusedSimpArgs false
open Go.RowKit

theorem RdLL.of_own {w : World} {lo hi : Nat} {v : Value} {l : List (List Int)} (h : OwLL w lo hi v l) : RdLL w hi v l :=
  RdN.of_own (fun lo hi us x h => oLL_rd h) (fun B B' us x hB h => rLL_more hB us x h) (by decide) h
/-- Rows of rows whose rows bear marks from K on. -/
def OmLL (w : World) (lo hi : Nat) (v : Value) (l : List (List Int)) (K : Int) : Prop :=
  ∃ (o0 o1 : Nat) (a b : Nat → Nat) (f : Nat → Value), lo ≤ o0 ∧ o1 ≤ hi ∧ (∀ k, k < l.length → lo ≤ a k ∧ b k ≤ hi ∧ (b k ≤ o0 ∨ o1 ≤ a k)) ∧ OwC w o0 o1 25 1 v l.length ((List.range (l.length * 1)).map f) ∧
    ∀ k x, l[k]? = some x → OwC w (a k) (b k) 2 1 (f k) x.length (vM (K + (sumL List.length (l.take k) : Int)) (x.length * 1))
theorem OmLL.below {w w' : World} {lo hi : Nat} {v : Value} {l : List (List Int)} {K : Int} (h : OmLL w lo hi v l K) (hb : Below hi w w') : OmLL w' lo hi v l K := by
  obtain ⟨o0, o1, a, b, f, h1, h2, h3, h4, h5⟩ := h
  exact ⟨o0, o1, a, b, f, h1, h2, h3, h4.below (hb.mono h2), fun k x hx => (h5 k x hx).below (hb.mono (h3 k (List.getElem?_eq_some_iff.1 hx).1).2.1)⟩
theorem sum_next {l : List (List Int)} {k : Nat} {x : List Int} (hx : l[k]? = some x) : sumL List.length (l.take (k + 1)) = sumL List.length (l.take k) + x.length := by
  unfold sumL
  rw [List.take_add_one, hx]
  simp
theorem sum_le (l : List (List Int)) (k : Nat) : sumL List.length (l.take k) ≤ sumL List.length l := by
  have e : sumL List.length l = sumL List.length (l.take k) + sumL List.length (l.drop k) := by
    unfold sumL
    conv => lhs; rw [← List.take_append_drop k l]
    rw [List.map_append, List.sum_append]
  omega

set_option maxHeartbeats 4000000 in
set_option maxRecDepth 100000 in
theorem markLL2_any (v : Value) (l : List (List Int)) (K : Int) (w : World) (lo hi : Nat) (ho : OwLL w lo hi v l) (hh : hi ≤ w.heap.size) (hK : 0 ≤ K) (hn : K + (sumL List.length l : Int) ≤ 1000000000000) :
    Calls Try.prog 51 #[v, .int .i64 K] w fun e w' => e = .returned (.int .i64 (K + (sumL List.length l : Int))) ∧ OmLL w' lo hi v l K ∧ Only lo hi w w' := by
  obtain ⟨o0, o1, a, b, f, g0, g1, g2, g3, g4, g5⟩ := ho
  obtain ⟨A, c, rfl, hbig, -⟩ := g4.cells
  have HO := Lib.hid g4
  have HG := Lib.hid g5
  have H2 := Lib.hid g2
  have H3 := Lib.hid g3
  have HSL := Lib.hid (fun k => sum_le l k)
  have HSN := Lib.hid (fun (k : Nat) (x : List Int) (hx : l[k]? = some x) => sum_next hx)
  have HS0 := Lib.hid (show sumL List.length (l.take 0) = 0 by simp [sumL])
  have HSE := Lib.hid (show sumL List.length (l.take l.length) = sumL List.length l by rw [List.take_length])
  have hom : ∀ W, OwC W o0 o1 25 1 (.slice A l.length c) l.length ((List.range (l.length * 1)).map f) → (∀ k x, l[k]? = some x → OwC W (a k) (b k) 2 1 (f k) x.length (vM (K + (sumL List.length (l.take k) : Int)) (x.length * 1))) → OmLL W lo hi (.slice A l.length c) l K :=
    fun W h1 h2 => ⟨o0, o1, a, b, f, g0, g1, g2, h1, h2⟩
  have HOM := Lib.hid hom
  generalize hS : (fun k => sumL List.length (l.take k)) = S at *
  have hSk : ∀ k, sumL List.length (l.take k) = S k := fun k => by rw [← hS]
  simp only [hSk] at HSL HSN HS0 HSE HOM
  generalize sumL List.length l = T at *
  clear g4 g5 g2 g3 hom hSk hS
  generalize hl : l.length = n at *
  have HL := Lib.hid hl
  clear hl
  go_enter Try.func51, Try.ntmps51
  go_wp2
  go_loopw [1, 5] (fun t i wr => ∃ (k : Nat), k ≤ n ∧ i = .int .i64 k ∧ t = .int .i64 (K + (S k : Int)) ∧ Hid (OwC wr o0 o1 25 1 (.slice A n c) n ((List.range (n * 1)).map f)) ∧
    Hid (∀ j x, k ≤ j → l[j]? = some x → oLL wr (a j) (b j) ((List.range 1).map fun q => f (j * 1 + q)) x) ∧ Hid (∀ j x, j < k → l[j]? = some x → OwC wr (a j) (b j) 2 1 (f j) x.length (vM (K + (S j : Int)) (x.length * 1))) ∧ Only lo hi w wr) (fun _ i _ => n - (intOf i).toNat)
  case atStart => exact ⟨0, Nat.zero_le _, rfl, by rw [HS0.out]; simp, HO.out, fun j x _ hx => HG.out j x hx, fun j x hj => absurd hj (by omega), Only.refl _ _ _⟩
  case round =>
    rename_i wr
    obtain ⟨k, hk, rfl, rfl, how, hg, hmk, hon⟩ := hrel
    have hsk := HSL.out k
    by_cases hlt : k < n
    · have hx : l[k]? = some (l[k]'(by rw [HL.out]; exact hlt)) := List.getElem?_eq_getElem _
      obtain ⟨x, hxe⟩ : ∃ x, x = l[k]'(by rw [HL.out]; exact hlt) := ⟨_, rfl⟩
      rw [← hxe] at hx
      obtain ⟨s, hs, hos⟩ := hg.out k x (Nat.le_refl _) hx
      simp at hs
      obtain ⟨A', c', e', -, hcell⟩ := how.out.cells
      injection e' with q1 _ q3
      subst q1 q3
      obtain ⟨g, rfl, hg0, hg1, -, hcc⟩ := hcell k hlt
      have hck := hcc k s (by omega) (by simp [hlt, hs])
      obtain ⟨A2, c2, hse, -⟩ := hos.cells
      have HSE2 := Lib.hid hs
      have hsn := HSN.out k x hx
      have hsk1 := HSL.out (k + 1)
      have HX := Lib.hid hx
      have HOS := Lib.hid hos
      have HON := Lib.hid hon
      obtain ⟨w1, w2, w3⟩ := H2.out k hlt
      have hzz : K + (S k : Int) + ((x.length : Nat) : Int) ≤ 1000000000000 := by omega
      have HSN2 := Lib.hid (show K + (S k : Int) + ((x.length : Nat) : Int) = K + (S (k + 1) : Int) by omega)
      subst hse
      clear hx hxe hs hos hcell hcc hon hsn
      go_wp2_with fail
      refine (markI_any _ _ _ _ _ _ _ HOS.out (by omega) hzz).mono ?_
      rintro e wn ⟨rfl, hmo, hmw⟩
      have hsz := HON.out.size
      have hbk : ∀ j x, k + 1 ≤ j → l[j]? = some x → oLL wn (a j) (b j) ((List.range 1).map fun q => f (j * 1 + q)) x := by
        intro j y hj hy
        have hjn : j < n := by rw [← HL.out]; exact (List.getElem?_eq_some_iff.1 hy).1
        obtain ⟨s', h1, h2⟩ := hg.out j y (by omega) hy
        have h3 := H2.out j hjn
        refine ⟨s', h1, h2.only hmw ?_ (by omega)⟩
        rcases H3.out k j hlt hjn (by omega) with h | h
        · exact .inr h
        · exact .inl h
      have hmk2 : ∀ j y, j < k + 1 → l[j]? = some y → OwC wn (a j) (b j) 2 1 (f j) y.length (vM (K + (S j : Int)) (y.length * 1)) := by
        intro j y hj hy
        have hjn : j < n := by rw [← HL.out]; exact (List.getElem?_eq_some_iff.1 hy).1
        by_cases hjk : j = k
        · subst hjk
          have hxy : x = y := by have := HX.out.symm.trans hy; injection this
          subst hxy
          rw [HSE2.out]
          exact hmo
        · have h3 := H2.out j hjn
          refine (hmk.out j y (by omega) hy).only hmw ?_ (by omega)
          rcases H3.out k j hlt hjn (by omega) with h | h
          · exact .inr h
          · exact .inl h
      have HBK := Lib.hid hbk
      have HMK := Lib.hid hmk2
      have HOW := Lib.hid (how.out.only hmw (by omega) (by omega))
      have HMW := Lib.hid (HON.out.trans (hmw.wide w1 w2))
      clear hbk hmo hmw hmk2
      go_wp2
      exact ⟨⟨k + 1, by omega, by go_num, by rw [HSN2.out], HOW.out, HBK.out, HMK.out, HMW.out⟩, by simp [intOf]; omega⟩
    · have hkn : k = n := by omega
      have HON := Lib.hid hon
      have HZ := Lib.hid (show K + (S k : Int) = K + (T : Int) by rw [hkn, HSE.out])
      have HOM2 := Lib.hid (HOM.out wr how.out (fun j x hx => hmk.out j x (by rw [hkn, ← HL.out]; exact (List.getElem?_eq_some_iff.1 hx).1) hx))
      clear hon hkn
      go_wp2
      go_ret
      exact ⟨ret_int HZ.out, HOM2.out, HON.out⟩

set_option maxHeartbeats 4000000 in
set_option maxRecDepth 100000 in
theorem heldLL_any (v : Value) (l : List (List Int)) (K : Int) (w : World) (lo hi : Nat) (ho : OmLL w lo hi v l K) (hK : 0 ≤ K) (hn : K + (sumL List.length l : Int) ≤ 1000000000000) :
    Calls Try.prog 55 #[v, .int .i64 K] w fun e w' => e = .returned (.int .i64 (K + (sumL List.length l : Int))) ∧ w = w' := by
  obtain ⟨o0, o1, a, b, f, g0, g1, g2, g4, g5⟩ := ho
  obtain ⟨A, c, rfl, hbig, hcell⟩ := g4.cells
  have HG := Lib.hid g5
  have HCE := Lib.hid hcell
  have HSL := Lib.hid (fun k => sum_le l k)
  have HSN := Lib.hid (fun (k : Nat) (x : List Int) (hx : l[k]? = some x) => sum_next hx)
  have HS0 := Lib.hid (show sumL List.length (l.take 0) = 0 by simp [sumL])
  have HSE := Lib.hid (show sumL List.length (l.take l.length) = sumL List.length l by rw [List.take_length])
  generalize hS : (fun k => sumL List.length (l.take k)) = S at *
  have hSk : ∀ k, sumL List.length (l.take k) = S k := fun k => by rw [← hS]
  simp only [hSk] at HSL HSN HS0 HSE HG
  generalize sumL List.length l = T at *
  clear g4 g5 g2 hSk hS hcell
  generalize hl : l.length = n at *
  have HL := Lib.hid hl
  clear hl
  go_enter Try.func55, Try.ntmps55
  go_wp2
  go_loop [1, 5] (fun t i => ∃ k : Nat, k ≤ n ∧ i = .int .i64 k ∧ t = .int .i64 (K + (S k : Int))) (fun _ i => n - (intOf i).toNat)
  case atStart => exact ⟨0, Nat.zero_le _, rfl, by rw [HS0.out]; simp⟩
  case round =>
    obtain ⟨k, hk, rfl, rfl⟩ := hrel
    have hsk := HSL.out k
    by_cases hlt : k < n
    · have hx : l[k]? = some (l[k]'(by rw [HL.out]; exact hlt)) := List.getElem?_eq_getElem _
      obtain ⟨x, hxe⟩ : ∃ x, x = l[k]'(by rw [HL.out]; exact hlt) := ⟨_, rfl⟩
      rw [← hxe] at hx
      have hos := HG.out k x hx
      obtain ⟨g, rfl, hg0, hg1, -, hcc⟩ := HCE.out k hlt
      have hck := hcc k (f k) (by omega) (by simp [hlt])
      obtain ⟨A2, c2, hse, -⟩ := hos.cells
      have hsn := HSN.out k x hx
      have hsk1 := HSL.out (k + 1)
      have HOS := Lib.hid hos
      rw [hse] at hck HOS
      have hzz : K + (S k : Int) + ((x.length : Nat) : Int) ≤ 1000000000000 := by omega
      have HSN2 := Lib.hid (show K + (S k : Int) + ((x.length : Nat) : Int) = K + (S (k + 1) : Int) by omega)
      clear hx hxe hos hcc hse hsn
      go_wp2_with fail
      refine (heldI_any _ _ _ _ _ _ HOS.out (by omega) hzz).mono ?_
      rintro e wn ⟨rfl, rfl⟩
      go_wp2
      exact ⟨⟨k + 1, by omega, by go_num, by rw [HSN2.out]⟩, by simp [intOf]; omega⟩
    · have hkn : k = n := by omega
      have HZ := Lib.hid (show K + (S k : Int) = K + (T : Int) by rw [hkn, HSE.out])
      clear hkn
      go_wp2
      go_ret
      exact ⟨ret_int HZ.out, rfl⟩

end Go.Proofs.Ytmcalioldphfeaa

/-
  A family of rows in windows apart from each other: lists of numbers are marked row by row, and the marks held.
-/
namespace Go.Proofs.Ytmcalioldphfeaa
set_option linter.unusedVariables false
set_option linter.unusedSimpArgs false
open Go.RowKit

/-- Rows in windows apart from each other, all from a on and below z. -/
structure Fam (w : World) (lo hi : Nat → Nat) (a z : Nat) (R : Nat → Spot) : Prop where
  own : ∀ j, OwC w (lo j) (hi j) (R j).E (R j).sz (R j).v (R j).n (R j).xs
  apart : ∀ i j, i ≠ j → hi i ≤ lo j ∨ hi j ≤ lo i
  low : ∀ j, a ≤ lo j
  top : ∀ j, hi j ≤ z
  z : z ≤ w.heap.size
section
variable {w w' : World} {lo hi : Nat → Nat} {a z : Nat} {R : Nat → Spot}
theorem Fam.of_spots {B : Nat} {S : Nat → Spot} (h : SpotsT w B S) (hB : B ≤ w.heap.size) : Fam w (fun j => (S j).lo B) (fun j => (S j).hi B) B w.heap.size S :=
  ⟨fun j => (h (j + 1)).owc (by omega), fun i j hij => (h (i + j + 1)).apart (by omega) (by omega) hij, fun j => ((h (j + 1)).window hB (by omega)).1, fun j => ((h (j + 1)).window hB (by omega)).2, Nat.le_refl _⟩
theorem Fam.below (h : Fam w lo hi a z R) (hb : Below z w w') : Fam w' lo hi a z R := ⟨fun j => (h.own j).below (hb.mono (h.top j)), h.apart, h.low, h.top, Nat.le_trans h.z hb.size⟩
theorem Fam.only {c d : Nat} (h : Fam w lo hi a z R) (hw : Only c d w w') (hd : z ≤ c ∨ d ≤ a) : Fam w' lo hi a z R :=
  ⟨fun j => (h.own j).only hw (by have := h.low j; have := h.top j; omega) (Nat.le_trans (h.top j) h.z), h.apart, h.low, h.top, Nat.le_trans h.z hw.size⟩
theorem Fam.put (h : Fam w lo hi a z R) {j : Nat} {s : Spot} (hw : Only (lo j) (hi j) w w') (ho : OwC w' (lo j) (hi j) s.E s.sz s.v s.n s.xs) : Fam w' lo hi a z (putS R j s) :=
  ⟨fun i => by
    by_cases e : i = j
    · subst e
      rw [putS_same]
      exact ho
    · rw [putS_ne e]
      exact (h.own i).only hw (h.apart i j e) (Nat.le_trans (h.top i) h.z), h.apart, h.low, h.top, Nat.le_trans h.z hw.size⟩
theorem Fam.wide (h : Fam w lo hi a z R) {j : Nat} (hw : Only (lo j) (hi j) w w') : Only a z w w' := hw.wide (h.low j) (h.top j)
theorem Fam.at_ (h : Fam w lo hi a z R) {j : Nat} {E : TypeId} {sz n : Nat} {v : Value} {xs : List Value} (e : R j = ⟨E, sz, v, n, xs⟩) : OwC w (lo j) (hi j) E sz v n xs := by
  have h1 := h.own j
  rw [e] at h1
  exact h1
theorem Fam.wx (h : Fam w lo hi a z R) (j : Nat) : hi j ≤ w.heap.size := Nat.le_trans (h.top j) h.z
end
/-- A row of numbers that bears the marks from K on. -/
abbrev spK (v : Value) (n : Nat) (K : Int) : Spot := ⟨2, 1, v, n, vM K (n * 1)⟩
/-- Lists: the row of headers, and the rows. -/
structure LLf (R : Nat → Spot) (j0 : Nat) (ix : Nat → Nat) (v : Value) (l : List (List Int)) : Prop where
  hd : ∃ xs, R j0 = ⟨25, 1, v, l.length, xs⟩ ∧ ∀ k, k < l.length → xs[k]? = some (R (ix k)).v
  ls : ∀ k x, l[k]? = some x → R (ix k) = spI (R (ix k)).v x
structure LLm (R : Nat → Spot) (j0 : Nat) (ix : Nat → Nat) (v : Value) (l : List (List Int)) (K : Int) : Prop where
  hd : ∃ xs, R j0 = ⟨25, 1, v, l.length, xs⟩ ∧ ∀ k, k < l.length → xs[k]? = some (R (ix k)).v
  ls : ∀ k x, l[k]? = some x → R (ix k) = spK (R (ix k)).v x.length (K + (sumL List.length (l.take k) : Int))

set_option maxHeartbeats 4000000 in
set_option maxRecDepth 100000 in
theorem markLLf_any (v : Value) (l : List (List Int)) (K : Int) (w : World) (lo hi : Nat → Nat) (a z : Nat) (R : Nat → Spot) (j0 : Nat) (ix : Nat → Nat) (h : Fam w lo hi a z R) (hl : LLf R j0 ix v l) (hinj : ∀ i j, ix i = ix j → i = j) (h0 : ∀ k, ix k ≠ j0) (hK : 0 ≤ K) (hn : K + (sumL List.length l : Int) ≤ 1000000000000) :
    Calls Try.prog 51 #[v, .int .i64 K] w fun e w' => e = .returned (.int .i64 (K + (sumL List.length l : Int))) ∧ (∃ R', Fam w' lo hi a z R' ∧ LLm R' j0 ix v l K ∧ ∀ j, (∀ k, j ≠ ix k) → R' j = R j) ∧ Only a z w w' := by
  obtain ⟨xs, hx0, hxs⟩ := hl.hd
  obtain ⟨A, c, rfl, hbig, -⟩ := (h.at_ hx0).cells
  have HX0 := Lib.hid hx0
  have HXS := Lib.hid hxs
  have HLS := Lib.hid hl.ls
  have HF := Lib.hid h
  have HINJ := Lib.hid hinj
  have H0 := Lib.hid h0
  have HSL := Lib.hid (fun k => sum_le l k)
  have HSN := Lib.hid (fun (k : Nat) (x : List Int) (hx : l[k]? = some x) => sum_next hx)
  have HS0 := Lib.hid (show sumL List.length (l.take 0) = 0 by simp [sumL])
  have HSE := Lib.hid (show sumL List.length (l.take l.length) = sumL List.length l by rw [List.take_length])
  have hom : ∀ R' : Nat → Spot, (R' j0 = R j0) → (∀ k, (R' (ix k)).v = (R (ix k)).v) → (∀ k x, l[k]? = some x → R' (ix k) = spK (R (ix k)).v x.length (K + (sumL List.length (l.take k) : Int))) → LLm R' j0 ix (.slice A l.length c) l K :=
    fun R' h1 h2 h3 => ⟨⟨xs, by rw [h1]; exact hx0, fun k hk => by rw [h2]; exact hxs k hk⟩, fun k x hx => by rw [h2]; exact h3 k x hx⟩
  have HOM := Lib.hid hom
  generalize hS : (fun k => sumL List.length (l.take k)) = S at *
  have hSk : ∀ k, sumL List.length (l.take k) = S k := fun k => by rw [← hS]
  simp only [hSk] at HSL HSN HS0 HSE HOM
  generalize sumL List.length l = T at *
  clear h hl hinj h0 hom hSk hS hx0 hxs
  generalize hl : l.length = n at *
  have HL := Lib.hid hl
  clear hl
  go_enter Try.func51, Try.ntmps51
  go_wp2
  go_loopw [1, 5] (fun t i wr => ∃ (k : Nat) (R1 : Nat → Spot), k ≤ n ∧ i = .int .i64 k ∧ t = .int .i64 (K + (S k : Int)) ∧ Hid (Fam wr lo hi a z R1) ∧ Hid (∀ j x, j < k → l[j]? = some x → R1 (ix j) = spK (R (ix j)).v x.length (K + (S j : Int))) ∧
    Hid (∀ j, (∀ q, q < k → j ≠ ix q) → R1 j = R j) ∧ Hid (Only a z w wr)) (fun _ i _ => n - (intOf i).toNat)
  case atStart => exact ⟨0, R, Nat.zero_le _, rfl, by rw [HS0.out]; simp, HF.out, fun j x hj => absurd hj (by omega), fun j _ => rfl, Only.refl _ _ _⟩
  case round =>
    rename_i wr
    obtain ⟨k, R1, hk, rfl, rfl, hf, hmk, hsame, hon⟩ := hrel
    have hsk := HSL.out k
    by_cases hlt : k < n
    · have hx : l[k]? = some (l[k]'(by rw [HL.out]; exact hlt)) := List.getElem?_eq_getElem _
      obtain ⟨x, hxe⟩ : ∃ x, x = l[k]'(by rw [HL.out]; exact hlt) := ⟨_, rfl⟩
      rw [← hxe] at hx
      have e0 : R1 j0 = R j0 := hsame.out j0 (fun q _ e => H0.out q e.symm)
      have e1 : R1 (ix k) = R (ix k) := hsame.out (ix k) (fun q hq e => by have := HINJ.out _ _ e; omega)
      have hos := hf.out.at_ (e1.trans (HLS.out k x hx))
      obtain ⟨A', c', e', -, hcell⟩ := (hf.out.at_ (e0.trans HX0.out)).cells
      injection e' with q1 _ q3
      subst q1 q3
      obtain ⟨g, rfl, hg0, hg1, -, hcc⟩ := hcell k hlt
      have hck := hcc k (R (ix k)).v (by omega) (HXS.out k hlt)
      obtain ⟨A2, c2, hse, -⟩ := hos.cells
      have hsn := HSN.out k x hx
      have hsk1 := HSL.out (k + 1)
      have HX := Lib.hid hx
      have HOS := Lib.hid hos
      have HSEQ := Lib.hid hse
      rw [hse] at hck HOS
      have hzz : K + (S k : Int) + ((x.length : Nat) : Int) ≤ 1000000000000 := by omega
      have HSN2 := Lib.hid (show K + (S k : Int) + ((x.length : Nat) : Int) = K + (S (k + 1) : Int) by omega)
      clear hx hxe hos hcell hcc hsn hse e0 e1
      go_wp2_with fail
      refine (markI_any _ _ _ _ _ _ _ HOS.out (by omega) hzz).mono ?_
      rintro e wn ⟨rfl, hmo, hmw⟩
      have HF2 := Lib.hid (hf.out.put (j := ix k) (s := spK (R (ix k)).v x.length (K + (S k : Int))) hmw (by rw [HSEQ.out]; exact hmo))
      have HMW := Lib.hid (hon.out.trans (hf.out.wide hmw))
      have HMK : Hid (∀ j y, j < k + 1 → l[j]? = some y → putS R1 (ix k) (spK (R (ix k)).v x.length (K + (S k : Int))) (ix j) = spK (R (ix j)).v y.length (K + (S j : Int))) := by
        intro j y hj hy
        by_cases hjk : j = k
        · subst hjk
          have hxy : x = y := by have := HX.out.symm.trans hy; injection this
          subst hxy
          rw [putS_same]
        · rw [putS_ne (fun e => hjk (HINJ.out _ _ e))]
          exact hmk.out j y (by omega) hy
      have HSM : Hid (∀ j, (∀ q, q < k + 1 → j ≠ ix q) → putS R1 (ix k) (spK (R (ix k)).v x.length (K + (S k : Int))) j = R j) := by
        intro j hj
        rw [putS_ne (hj k (by omega))]
        exact hsame.out j (fun q hq => hj q (by omega))
      clear hmo hmw hck hf hon hmk hsame
      go_wp2
      exact ⟨⟨k + 1, _, by omega, by go_num, by rw [HSN2.out], HF2.out, HMK.out, HSM.out, HMW.out⟩, by simp [intOf]; omega⟩
    · have hkn : k = n := by omega
      have HZ := Lib.hid (show K + (S k : Int) = K + (T : Int) by rw [hkn, HSE.out])
      have HALL : Hid (∀ j x, l[j]? = some x → R1 (ix j) = spK (R (ix j)).v x.length (K + (S j : Int))) := fun j x hx => hmk.out j x (by rw [hkn, ← HL.out]; exact (List.getElem?_eq_some_iff.1 hx).1) hx
      have HV : Hid (∀ q, (R1 (ix q)).v = (R (ix q)).v) := fun q => by
        by_cases hq : q < n
        · rw [HALL.out q _ (List.getElem?_eq_getElem (by rw [HL.out]; exact hq))]
        · rw [hsame.out (ix q) (fun q' hq' e => by have := HINJ.out _ _ e; omega)]
      have HEND := Lib.hid (HOM.out R1 (hsame.out j0 (fun q _ e => H0.out q e.symm)) HV.out HALL.out)
      clear hkn
      go_wp2
      go_ret
      exact ⟨ret_int HZ.out, ⟨R1, hf.out, HEND.out, fun j hj => hsame.out j (fun q _ => hj q)⟩, hon.out⟩

set_option maxHeartbeats 4000000 in
set_option maxRecDepth 100000 in
theorem heldLLf_any (v : Value) (l : List (List Int)) (K : Int) (w : World) (lo hi : Nat → Nat) (a z : Nat) (R : Nat → Spot) (j0 : Nat) (ix : Nat → Nat) (h : Fam w lo hi a z R) (hl : LLm R j0 ix v l K) (hK : 0 ≤ K) (hn : K + (sumL List.length l : Int) ≤ 1000000000000) :
    Calls Try.prog 55 #[v, .int .i64 K] w fun e w' => e = .returned (.int .i64 (K + (sumL List.length l : Int))) ∧ w = w' := by
  obtain ⟨xs, hx0, hxs⟩ := hl.hd
  obtain ⟨A, c, rfl, hbig, hcell⟩ := (h.at_ hx0).cells
  have HG : Hid (∀ k x, l[k]? = some x → OwC w (lo (ix k)) (hi (ix k)) 2 1 (R (ix k)).v x.length (vM (K + (sumL List.length (l.take k) : Int)) (x.length * 1))) := fun k x hx => h.at_ (hl.ls k x hx)
  have HXS := Lib.hid hxs
  have HCE := Lib.hid hcell
  have HSL := Lib.hid (fun k => sum_le l k)
  have HSN := Lib.hid (fun (k : Nat) (x : List Int) (hx : l[k]? = some x) => sum_next hx)
  have HS0 := Lib.hid (show sumL List.length (l.take 0) = 0 by simp [sumL])
  have HSE := Lib.hid (show sumL List.length (l.take l.length) = sumL List.length l by rw [List.take_length])
  generalize hS : (fun k => sumL List.length (l.take k)) = S at *
  have hSk : ∀ k, sumL List.length (l.take k) = S k := fun k => by rw [← hS]
  simp only [hSk] at HSL HSN HS0 HSE HG
  generalize sumL List.length l = T at *
  clear h hl hx0 hxs hSk hS hcell
  generalize hl : l.length = n at *
  have HL := Lib.hid hl
  clear hl
  go_enter Try.func55, Try.ntmps55
  go_wp2
  go_loop [1, 5] (fun t i => ∃ k : Nat, k ≤ n ∧ i = .int .i64 k ∧ t = .int .i64 (K + (S k : Int))) (fun _ i => n - (intOf i).toNat)
  case atStart => exact ⟨0, Nat.zero_le _, rfl, by rw [HS0.out]; simp⟩
  case round =>
    obtain ⟨k, hk, rfl, rfl⟩ := hrel
    have hsk := HSL.out k
    by_cases hlt : k < n
    · have hx : l[k]? = some (l[k]'(by rw [HL.out]; exact hlt)) := List.getElem?_eq_getElem _
      obtain ⟨x, hxe⟩ : ∃ x, x = l[k]'(by rw [HL.out]; exact hlt) := ⟨_, rfl⟩
      rw [← hxe] at hx
      have hos := HG.out k x hx
      obtain ⟨g, rfl, hg0, hg1, -, hcc⟩ := HCE.out k hlt
      have hck := hcc k (R (ix k)).v (by omega) (HXS.out k hlt)
      obtain ⟨A2, c2, hse, -⟩ := hos.cells
      have hsn := HSN.out k x hx
      have hsk1 := HSL.out (k + 1)
      have HOS := Lib.hid hos
      rw [hse] at hck HOS
      have hzz : K + (S k : Int) + ((x.length : Nat) : Int) ≤ 1000000000000 := by omega
      have HSN2 := Lib.hid (show K + (S k : Int) + ((x.length : Nat) : Int) = K + (S (k + 1) : Int) by omega)
      clear hx hxe hos hcc hse hsn
      go_wp2_with fail
      refine (heldI_any _ _ _ _ _ _ HOS.out (by omega) hzz).mono ?_
      rintro e wn ⟨rfl, rfl⟩
      go_wp2
      exact ⟨⟨k + 1, by omega, by go_num, by rw [HSN2.out]⟩, by simp [intOf]; omega⟩
    · have hkn : k = n := by omega
      have HZ := Lib.hid (show K + (S k : Int) = K + (T : Int) by rw [hkn, HSE.out])
      clear hkn
      go_wp2
      go_ret
      exact ⟨ret_int HZ.out, rfl⟩

end Go.Proofs.Ytmcalioldphfeaa

/-
  The rows of loops of a family of rows: marked, and the marks held.
-/
namespace Go.Proofs.Ytmcalioldphfeaa
set_option linter.unusedVariables false
set_option linter.unusedSimpArgs false
open Go.RowKit

theorem OwC.of_rowIs {w : World} {lo hi g E sz n cap : Nat} {f : Nat → Value} (h : w.rowIs g E (cap * sz) f) (hlo : lo ≤ g) (hhi : g < hi) (hn : n ≤ cap) (hc : cap ≤ maxLen) : OwC w lo hi E sz (.slice (some ⟨g, 0, none⟩) n cap) n ((List.range (n * sz)).map f) := by
  obtain ⟨cur, h1, h2, h3⟩ := h
  have hle : n * sz ≤ cap * sz := Nat.mul_le_mul_right _ hn
  refine ⟨by simp, .inr ⟨g, cap, cur, rfl, hlo, hhi, h1, hn, hc, h2, ?_⟩⟩
  apply List.ext_getElem?
  intro i
  by_cases hi : i < n * sz
  · rw [List.getElem?_take, if_pos hi, Array.getElem?_toList, h3 i (by omega)]
    simp [hi]
  · rw [List.getElem?_eq_none (by simp; omega), List.getElem?_eq_none (by simp; omega)]
/-- Loops: the row of headers, and the rows of parents. -/
structure ISf (R : Nat → Spot) (j0 : Nat) (ix : Nat → Nat) (v : Value) (l : List Inf) : Prop where
  hd : ∃ xs, R j0 = ⟨102, 6, v, l.length, xs⟩ ∧ ∀ k x, l[k]? = some x → xs[k * 6 + 5]? = some (R (ix k)).v
  ls : ∀ k x, l[k]? = some x → R (ix k) = spI (R (ix k)).v x.ps
/-- The first mark of a loop. -/
def isK (K : Int) (l : List Inf) (k : Nat) : Int := K + (k : Int) * 5 + (sumL infL (l.take k) : Int)
structure ISm (R : Nat → Spot) (j0 : Nat) (ix : Nat → Nat) (v : Value) (l : List Inf) (K : Int) : Prop where
  hd : ∃ xs, R j0 = ⟨102, 6, v, l.length, xs⟩ ∧ ∀ k x, l[k]? = some x → ∀ q u, [Value.int .i64 (isK K l k), .int .i64 (isK K l k + 1), .int .i64 (isK K l k + 1 + 1), .int .i64 (isK K l k + 1 + 1 + 1), .int .i64 (isK K l k + 1 + 1 + 1 + 1), (R (ix k)).v][q]? = some u → xs[k * 6 + q]? = some u
  ls : ∀ k x, l[k]? = some x → R (ix k) = spK (R (ix k)).v x.ps.length (isK K l k + 1 + 1 + 1 + 1 + 1)
theorem isK_next {l : List Inf} {k : Nat} {x : Inf} (K : Int) (hx : l[k]? = some x) : isK K l k + 1 + 1 + 1 + 1 + 1 + (x.ps.length : Int) = isK K l (k + 1) := by
  unfold isK sumL
  rw [List.take_add_one, hx]
  simp [infL]
  omega
theorem isK_le (K : Int) (l : List Inf) (k : Nat) : K + (k : Int) * 5 ≤ isK K l k ∧ (k ≤ l.length → isK K l k ≤ K + (l.length : Int) * 5 + (sumL infL l : Int)) := by
  have e : sumL infL l = sumL infL (l.take k) + sumL infL (l.drop k) := by
    unfold sumL
    conv => lhs; rw [← List.take_append_drop k l]
    rw [List.map_append, List.sum_append]
  unfold isK
  constructor
  · omega
  · intro h; omega
def put5v (f : Nat → Value) (o : Nat) (z : Int) : Nat → Value := put5 o (.int .i64 z) (.int .i64 (z + 1)) (.int .i64 (z + 1 + 1)) (.int .i64 (z + 1 + 1 + 1)) (.int .i64 (z + 1 + 1 + 1 + 1)) f
theorem put5v_at {f : Nat → Value} {k : Nat} {z : Int} {s : Value} (h : f (k * 6 + 5) = s) : ∀ q u, [Value.int .i64 z, .int .i64 (z + 1), .int .i64 (z + 1 + 1), .int .i64 (z + 1 + 1 + 1), .int .i64 (z + 1 + 1 + 1 + 1), s][q]? = some u → put5v f (k * 6) z (k * 6 + q) = u := by
  intro q u hu
  unfold put5v put5
  rcases q with _ | _ | _ | _ | _ | _ | q
  · simp at hu; subst hu; simp
  · simp at hu; subst hu; simp
  · simp at hu; subst hu; simp
  · simp at hu; subst hu; simp
  · simp at hu; subst hu; simp
  · simp at hu; subst hu; simp [h]
  · simp at hu
theorem put5v_far {f : Nat → Value} {k j : Nat} (z : Int) (h : j < k * 6 ∨ k * 6 + 5 ≤ j) : put5v f (k * 6) z j = f j := by
  unfold put5v put5
  rw [if_neg (by omega), if_neg (by omega), if_neg (by omega), if_neg (by omega), if_neg (by omega)]

set_option maxHeartbeats 8000000 in
set_option maxRecDepth 100000 in
theorem markISf_any (v : Value) (l : List Inf) (K : Int) (w : World) (lo hi : Nat → Nat) (a z : Nat) (R : Nat → Spot) (j0 : Nat) (ix : Nat → Nat) (h : Fam w lo hi a z R) (hl : ISf R j0 ix v l) (hinj : ∀ i j, ix i = ix j → i = j) (h0 : ∀ k, ix k ≠ j0) (hK : 0 ≤ K) (hn : K + (l.length : Int) * 5 + (sumL infL l : Int) ≤ 1000000000000) :
    Calls Try.prog 53 #[v, .int .i64 K] w fun e w' => e = .returned (.int .i64 (K + (l.length : Int) * 5 + (sumL infL l : Int))) ∧ (∃ R', Fam w' lo hi a z R' ∧ ISm R' j0 ix v l K ∧ ∀ j, j ≠ j0 → (∀ k, j ≠ ix k) → R' j = R j) ∧ Only a z w w' := by
  obtain ⟨xs, hx0, hxs⟩ := hl.hd
  have HF := Lib.hid h
  have HLS := Lib.hid hl.ls
  have HINJ := Lib.hid hinj
  have H0 := Lib.hid h0
  have HX0 := Lib.hid hx0
  rcases (h.at_ hx0).2 with ⟨hl0, A, c, rfl⟩ | ⟨g, cap, cur, rfl, hlo, hhi, hg, hnc, hcap, hsz, hx⟩
  · have hnil : l = [] := List.eq_nil_of_length_eq_zero hl0
    subst hnil
    have HM : Hid (ISm R j0 ix (.slice A 0 c) [] K) := ⟨⟨xs, hx0, fun k x hx => by simp at hx⟩, fun k x hx => by simp at hx⟩
    clear h hl hx0 hxs HX0
    go_enter Try.func53, Try.ntmps53
    go_wp2
    go_loopw [1, 5] (fun t i wr => t = .int .i64 K ∧ i = .int .i64 0 ∧ w = wr) (fun _ i _ => 0 - (intOf i).toNat)
    case atStart => exact ⟨rfl, rfl, rfl⟩
    case round =>
      rename_i wr
      obtain ⟨rfl, rfl, rfl⟩ := hrel
      go_wp2
      go_ret
      exact ⟨ret_int (by simp [sumL]), ⟨R, HF.out, HM.out, fun j _ _ => rfl⟩, Only.refl _ _ _⟩
  · have HXS : Hid (∀ k x, l[k]? = some x → (fun i => cur.getD i undef) (k * 6 + 5) = (R (ix k)).v) := by
      intro k x hk
      have h1 := hxs k x hk
      have hlt : k * 6 + 5 < l.length * 6 := by have := (List.getElem?_eq_some_iff.1 hk).1; omega
      rw [← hx, List.getElem?_take, if_pos hlt, Array.getElem?_toList] at h1
      show cur.getD (k * 6 + 5) undef = _
      rw [Array.getD_eq_getD_getElem?, h1]
      rfl
    have HR0 := Lib.hid (show w.rowIs g 102 (cap * 6) (fun i => cur.getD i undef) from ⟨cur, hg, hsz, fun i hi => row_getD (by omega)⟩)
    have HSN := Lib.hid (fun (k : Nat) (x : Inf) (hx : l[k]? = some x) => isK_next K hx)
    have HSL := Lib.hid (fun (k : Nat) => isK_le K l k)
    have HS0 := Lib.hid (show isK K l 0 = K by simp [isK, sumL])
    have HSE := Lib.hid (show isK K l l.length = K + (l.length : Int) * 5 + (sumL infL l : Int) by unfold isK; rw [List.take_length])
    have hom : ∀ (R' : Nat → Spot) (F : Nat → Value), R' j0 = ⟨102, 6, .slice (some ⟨g, 0, none⟩) l.length cap, l.length, (List.range (l.length * 6)).map F⟩ →
        (∀ k x, l[k]? = some x → ∀ q u, [Value.int .i64 (isK K l k), .int .i64 (isK K l k + 1), .int .i64 (isK K l k + 1 + 1), .int .i64 (isK K l k + 1 + 1 + 1), .int .i64 (isK K l k + 1 + 1 + 1 + 1), (R (ix k)).v][q]? = some u → F (k * 6 + q) = u) →
        (∀ k x, l[k]? = some x → R' (ix k) = spK (R (ix k)).v x.ps.length (isK K l k + 1 + 1 + 1 + 1 + 1)) → ISm R' j0 ix (.slice (some ⟨g, 0, none⟩) l.length cap) l K := by
      intro R' F h1 h2 h3
      have hv : ∀ k x, l[k]? = some x → (R' (ix k)).v = (R (ix k)).v := fun k x hx => by rw [h3 k x hx]
      refine ⟨⟨_, h1, fun k x hx q u hu => ?_⟩, fun k x hx => by rw [hv k x hx]; exact h3 k x hx⟩
      rw [hv k x hx] at hu
      have hk := (List.getElem?_eq_some_iff.1 hx).1
      have hq : q < 6 := (List.getElem?_eq_some_iff.1 hu).1
      rw [List.getElem?_map, List.getElem?_range (by omega)]
      show some (F (k * 6 + q)) = _
      rw [h2 k x hx q u hu]
    have HOM := Lib.hid hom
    have Hnc := Lib.hid hnc
    clear h hl hx0 hxs hinj h0 hom hx hg hsz hnc
    generalize hT : K + (l.length : Int) * 5 + (sumL infL l : Int) = T at *
    generalize hS : isK K l = S at *
    clear hT hS
    generalize hl : l.length = n at *
    have HL := Lib.hid hl
    have hnb : (n : Int) ≤ 200000000000 := by have := (HSL.out n).1; have h9 := HSE.out; omega
    clear hl
    go_enter Try.func53, Try.ntmps53
    go_wp2
    go_loopw [1, 5] (fun t i wr => ∃ (k : Nat) (R1 : Nat → Spot) (F : Nat → Value), k ≤ n ∧ i = .int .i64 k ∧ t = .int .i64 (S k) ∧ wr.rowIs g 102 (cap * 6) F ∧ Hid (Fam wr lo hi a z R1) ∧
      Hid (∀ j x, l[j]? = some x → F (j * 6 + 5) = (R (ix j)).v) ∧
      Hid (∀ j x, j < k → l[j]? = some x → ∀ q u, [Value.int .i64 (S j), .int .i64 (S j + 1), .int .i64 (S j + 1 + 1), .int .i64 (S j + 1 + 1 + 1), .int .i64 (S j + 1 + 1 + 1 + 1), (R (ix j)).v][q]? = some u → F (j * 6 + q) = u) ∧
      Hid (∀ j x, j < k → l[j]? = some x → R1 (ix j) = spK (R (ix j)).v x.ps.length (S j + 1 + 1 + 1 + 1 + 1)) ∧
      Hid (∀ j, j ≠ j0 → (∀ q, q < k → j ≠ ix q) → R1 j = R j) ∧ Hid (Only a z w wr)) (fun _ i _ => n - (intOf i).toNat)
    case atStart => exact ⟨0, R, _, Nat.zero_le _, rfl, by rw [HS0.out], HR0.out, HF.out, HXS.out, fun j x hj => absurd hj (by omega), fun j x hj => absurd hj (by omega), fun j _ _ => rfl, Only.refl _ _ _⟩
    case round =>
      rename_i wr
      obtain ⟨k, R1, F, hk, rfl, rfl, hrow, hf, h5, hcm, hmk, hsame, hon⟩ := hrel
      have hsk := HSL.out k
      by_cases hlt : k < n
      · have hx : l[k]? = some (l[k]'(by rw [HL.out]; exact hlt)) := List.getElem?_eq_getElem _
        obtain ⟨x, hxe⟩ : ∃ x, x = l[k]'(by rw [HL.out]; exact hlt) := ⟨_, rfl⟩
        rw [← hxe] at hx
        have e1 : R1 (ix k) = R (ix k) := hsame.out (ix k) (H0.out k) (fun q hq e => by have := HINJ.out _ _ e; omega)
        have hos := hf.out.at_ (e1.trans (HLS.out k x hx))
        have hcc := Hnc.out
        have d0 := hrow.cell (i := k * 6) (by omega)
        have d1 := hrow.cell (i := k * 6 + 1) (by omega)
        have d2 := hrow.cell (i := k * 6 + 2) (by omega)
        have d3 := hrow.cell (i := k * 6 + 3) (by omega)
        have d4 := hrow.cell (i := k * 6 + 4) (by omega)
        have d5 := hrow.cell (i := k * 6 + 5) (by omega)
        rw [h5.out k x hx] at d5
        have fz := fun i => hrow.frozen i
        obtain ⟨A2, c2, hse, -⟩ := hos.cells
        have HSEQ := Lib.hid hse
        have HX := Lib.hid hx
        have hsn := HSN.out k x hx
        obtain ⟨q1, q2⟩ := HSL.out (k + 1)
        have q3 := q2 (by omega)
        have q4 := hsk.1
        obtain ⟨z1, hz1⟩ : ∃ z1, z1 = S k := ⟨_, rfl⟩
        rw [← hz1] at hsn q4 hsk
        have hzz : z1 + 1 + 1 + 1 + 1 + 1 + ((x.ps.length : Nat) : Int) ≤ 1000000000000 := by rw [hsn]; have h9 := HSE.out; omega
        have hz0 : 0 ≤ z1 := by omega
        have HZ1 := Lib.hid hz1
        have HZN := Lib.hid hsn
        have hset : Only (lo j0) (hi j0) wr (((((wr.setCell ⟨g, k * 6, none⟩ (.int .i64 z1)).setCell ⟨g, k * 6 + 1, none⟩ (.int .i64 (z1 + 1))).setCell ⟨g, k * 6 + 2, none⟩ (.int .i64 (z1 + 1 + 1))).setCell ⟨g, k * 6 + 3, none⟩ (.int .i64 (z1 + 1 + 1 + 1))).setCell ⟨g, k * 6 + 4, none⟩ (.int .i64 (z1 + 1 + 1 + 1 + 1))) :=
          (((((Only.refl _ _ _).setCell hlo hhi _).setCell hlo hhi _).setCell hlo hhi _).setCell hlo hhi _).setCell hlo hhi _
        have hrow2 : (((((wr.setCell ⟨g, k * 6, none⟩ (.int .i64 z1)).setCell ⟨g, k * 6 + 1, none⟩ (.int .i64 (z1 + 1))).setCell ⟨g, k * 6 + 2, none⟩ (.int .i64 (z1 + 1 + 1))).setCell ⟨g, k * 6 + 3, none⟩ (.int .i64 (z1 + 1 + 1 + 1))).setCell ⟨g, k * 6 + 4, none⟩ (.int .i64 (z1 + 1 + 1 + 1 + 1))).rowIs g 102 (cap * 6) (put5v F (k * 6) z1) := rowIs_set5 hrow (k * 6) _ _ _ _ _
        have hf2 := hf.out.put (j := j0) (s := ⟨102, 6, .slice (some ⟨g, 0, none⟩) n cap, n, (List.range (n * 6)).map (put5v F (k * 6) z1)⟩) hset (OwC.of_rowIs hrow2 hlo hhi hcc hcap)
        have e2 := putS_ne (S := R1) (p := j0) (s := ⟨102, 6, .slice (some ⟨g, 0, none⟩) n cap, n, (List.range (n * 6)).map (put5v F (k * 6) z1)⟩) (H0.out k)
        have hos2 := hf2.at_ (e2.trans (e1.trans (HLS.out k x hx)))
        have HOS := Lib.hid hos2
        have HF2 := Lib.hid hf2
        have HROW := Lib.hid hrow2
        have HON := Lib.hid (hon.out.trans (hf.out.wide hset))
        have hwsz : wr.heap.size = (((((wr.setCell ⟨g, k * 6, none⟩ (.int .i64 z1)).setCell ⟨g, k * 6 + 1, none⟩ (.int .i64 (z1 + 1))).setCell ⟨g, k * 6 + 2, none⟩ (.int .i64 (z1 + 1 + 1))).setCell ⟨g, k * 6 + 3, none⟩ (.int .i64 (z1 + 1 + 1 + 1))).setCell ⟨g, k * 6 + 4, none⟩ (.int .i64 (z1 + 1 + 1 + 1 + 1))).heap.size := by simp
        have HWS := Lib.hid hwsz
        have hgl := Nat.lt_of_lt_of_le hhi (hf.out.wx j0)
        have HAP := Lib.hid (hf.out.apart j0 (ix k) (fun e => H0.out k e.symm))
        rw [hse] at d5 HOS
        rw [← hz1]
        clear hx hxe hos hrow hf2 hos2 hrow2 hset hse hsn e1 e2 hf hon hz1 hwsz q1 q2 q3 hsk
        go_wp2_with fail
        refine (markI_any _ _ _ _ _ _ _ HOS.out (by omega) hzz).mono ?_
        rintro e wn ⟨rfl, hmo, hmw⟩
        have HF3 := Lib.hid (HF2.out.put (j := ix k) (s := spK (R (ix k)).v x.ps.length (z1 + 1 + 1 + 1 + 1 + 1)) hmw (by rw [HSEQ.out]; exact hmo))
        have HROW2 := Lib.hid (rowIs_only HROW.out hmw (by have := HAP.out; omega) (by rw [← HWS.out]; exact hgl))
        have HMW := Lib.hid (HON.out.trans (HF2.out.wide hmw))
        have H5 : Hid (∀ j x, l[j]? = some x → put5v F (k * 6) z1 (j * 6 + 5) = (R (ix j)).v) := fun j y hy => by rw [put5v_far z1 (by omega)]; exact h5.out j y hy
        have HCM : Hid (∀ j y, j < k + 1 → l[j]? = some y → ∀ q u, [Value.int .i64 (S j), .int .i64 (S j + 1), .int .i64 (S j + 1 + 1), .int .i64 (S j + 1 + 1 + 1), .int .i64 (S j + 1 + 1 + 1 + 1), (R (ix j)).v][q]? = some u → put5v F (k * 6) z1 (j * 6 + q) = u) := by
          intro j y hj hy q u hu
          by_cases hjk : j = k
          · subst hjk
            rw [← HZ1.out] at hu
            exact put5v_at (h5.out j y hy) q u hu
          · have hq : q < 6 := (List.getElem?_eq_some_iff.1 hu).1
            rw [put5v_far z1 (by omega)]
            exact hcm.out j y (by omega) hy q u hu
        have HMK : Hid (∀ j y, j < k + 1 → l[j]? = some y → putS (putS R1 j0 ⟨102, 6, .slice (some ⟨g, 0, none⟩) n cap, n, (List.range (n * 6)).map (put5v F (k * 6) z1)⟩) (ix k) (spK (R (ix k)).v x.ps.length (z1 + 1 + 1 + 1 + 1 + 1)) (ix j) = spK (R (ix j)).v y.ps.length (S j + 1 + 1 + 1 + 1 + 1)) := by
          intro j y hj hy
          by_cases hjk : j = k
          · subst hjk
            have hxy : x = y := by have := HX.out.symm.trans hy; injection this
            subst hxy
            rw [putS_same, HZ1.out]
          · rw [putS_ne (fun e => hjk (HINJ.out _ _ e)), putS_ne (H0.out j)]
            exact hmk.out j y (by omega) hy
        have HSM : Hid (∀ j, j ≠ j0 → (∀ q, q < k + 1 → j ≠ ix q) → putS (putS R1 j0 ⟨102, 6, .slice (some ⟨g, 0, none⟩) n cap, n, (List.range (n * 6)).map (put5v F (k * 6) z1)⟩) (ix k) (spK (R (ix k)).v x.ps.length (z1 + 1 + 1 + 1 + 1 + 1)) j = R j) := by
          intro j hj0 hj
          rw [putS_ne (hj k (by omega)), putS_ne hj0]
          exact hsame.out j hj0 (fun q hq => hj q (by omega))
        clear hmo hmw d0 d1 d2 d3 d4 d5 hmk hsame hcm h5
        go_wp2
        exact ⟨⟨k + 1, _, _, by omega, by go_num, by rw [HZN.out], HROW2.out, HF3.out, H5.out, HCM.out, HMK.out, HSM.out, HMW.out⟩, by simp [intOf]; omega⟩
      · have hkn : k = n := by omega
        have HZ := Lib.hid (show S k = T by rw [hkn, HSE.out])
        have HALL : Hid (∀ j x, l[j]? = some x → j < k) := fun j x hx => by rw [hkn, ← HL.out]; exact (List.getElem?_eq_some_iff.1 hx).1
        have HROW := Lib.hid hrow
        have hcc := Hnc.out
        have hfin := hf.out.put (j := j0) (s := ⟨102, 6, .slice (some ⟨g, 0, none⟩) n cap, n, (List.range (n * 6)).map F⟩) (Only.refl _ _ _) (OwC.of_rowIs hrow hlo hhi hcc hcap)
        have HFIN := Lib.hid hfin
        have HEND := Lib.hid (HOM.out (putS R1 j0 ⟨102, 6, .slice (some ⟨g, 0, none⟩) n cap, n, (List.range (n * 6)).map F⟩) F (putS_same _ _ _) (fun j x hx => hcm.out j x (HALL.out j x hx) hx) (fun j x hx => by rw [putS_ne (H0.out j)]; exact hmk.out j x (HALL.out j x hx) hx))
        have HSM : Hid (∀ j, j ≠ j0 → (∀ q, j ≠ ix q) → putS R1 j0 ⟨102, 6, .slice (some ⟨g, 0, none⟩) n cap, n, (List.range (n * 6)).map F⟩ j = R j) := fun j h1 h2 => by rw [putS_ne h1]; exact hsame.out j h1 (fun q _ => h2 q)
        clear hkn hfin hrow
        go_wp2
        go_ret
        exact ⟨ret_int HZ.out, ⟨_, HFIN.out, HEND.out, HSM.out⟩, hon.out⟩

set_option maxHeartbeats 8000000 in
set_option maxRecDepth 100000 in
theorem heldISf_any (v : Value) (l : List Inf) (K : Int) (w : World) (lo hi : Nat → Nat) (a z : Nat) (R : Nat → Spot) (j0 : Nat) (ix : Nat → Nat) (h : Fam w lo hi a z R) (hl : ISm R j0 ix v l K) (hK : 0 ≤ K) (hn : K + (l.length : Int) * 5 + (sumL infL l : Int) ≤ 1000000000000) :
    Calls Try.prog 57 #[v, .int .i64 K] w fun e w' => e = .returned (.int .i64 (K + (l.length : Int) * 5 + (sumL infL l : Int))) ∧ w = w' := by
  obtain ⟨xs, hx0, hxs⟩ := hl.hd
  obtain ⟨A, c, rfl, hbig, hcell⟩ := (h.at_ hx0).cells
  have HG : Hid (∀ k x, l[k]? = some x → OwC w (lo (ix k)) (hi (ix k)) 2 1 (R (ix k)).v x.ps.length (vM (isK K l k + 1 + 1 + 1 + 1 + 1) (x.ps.length * 1))) := fun k x hx => h.at_ (hl.ls k x hx)
  have HXS := Lib.hid hxs
  have HCE := Lib.hid hcell
  have HSN := Lib.hid (fun (k : Nat) (x : Inf) (hx : l[k]? = some x) => isK_next K hx)
  have HSL := Lib.hid (fun (k : Nat) => isK_le K l k)
  have HS0 := Lib.hid (show isK K l 0 = K by simp [isK, sumL])
  have HSE := Lib.hid (show isK K l l.length = K + (l.length : Int) * 5 + (sumL infL l : Int) by unfold isK; rw [List.take_length])
  clear h hl hx0 hxs hcell
  generalize hT : K + (l.length : Int) * 5 + (sumL infL l : Int) = T at *
  generalize hS : isK K l = S at *
  clear hT hS
  generalize hl : l.length = n at *
  have HL := Lib.hid hl
  have hnb : (n : Int) ≤ 200000000000 := by have := (HSL.out n).1; have h9 := HSE.out; omega
  clear hl
  go_enter Try.func57, Try.ntmps57
  go_wp2
  go_loop [1, 5] (fun t i => ∃ k : Nat, k ≤ n ∧ i = .int .i64 k ∧ t = .int .i64 (S k)) (fun _ i => n - (intOf i).toNat)
  case atStart => exact ⟨0, Nat.zero_le _, rfl, by rw [HS0.out]⟩
  case round =>
    obtain ⟨k, hk, rfl, rfl⟩ := hrel
    have hsk := (HSL.out k).1
    by_cases hlt : k < n
    · have hx : l[k]? = some (l[k]'(by rw [HL.out]; exact hlt)) := List.getElem?_eq_getElem _
      obtain ⟨x, hxe⟩ : ∃ x, x = l[k]'(by rw [HL.out]; exact hlt) := ⟨_, rfl⟩
      rw [← hxe] at hx
      have hos := HG.out k x hx
      obtain ⟨g, rfl, hg0, hg1, -, hcc⟩ := HCE.out k hlt
      have hq := HXS.out k x hx
      have d0 := hcc (k * 6) _ (by omega) (hq 0 _ rfl)
      have d1 := hcc (k * 6 + 1) _ (by omega) (hq 1 _ rfl)
      have d2 := hcc (k * 6 + 2) _ (by omega) (hq 2 _ rfl)
      have d3 := hcc (k * 6 + 3) _ (by omega) (hq 3 _ rfl)
      have d4 := hcc (k * 6 + 4) _ (by omega) (hq 4 _ rfl)
      have d5 := hcc (k * 6 + 5) _ (by omega) (hq 5 _ rfl)
      obtain ⟨A2, c2, hse, -⟩ := hos.cells
      have hsn := HSN.out k x hx
      obtain ⟨q1, q2⟩ := HSL.out (k + 1)
      have q3 := q2 (by omega)
      have HOS := Lib.hid hos
      rw [hse] at d5 HOS
      generalize hz1 : S k = z1 at *
      have hzz : z1 + 1 + 1 + 1 + 1 + 1 + ((x.ps.length : Nat) : Int) ≤ 1000000000000 := by rw [hsn]; have h9 := HSE.out; omega
      have hz0 : 0 ≤ z1 := by omega
      have HZN := Lib.hid hsn
      clear hx hxe hos hcc hse hsn hq q1 q2 q3 hz1
      go_wp2_with fail
      refine (heldI_any _ _ _ _ _ _ HOS.out (by omega) hzz).mono ?_
      rintro e wn ⟨rfl, rfl⟩
      go_wp2
      exact ⟨⟨k + 1, by omega, by go_num, by rw [HZN.out]⟩, by simp [intOf]; omega⟩
    · have hkn : k = n := by omega
      have HZ := Lib.hid (show S k = T by rw [hkn, HSE.out])
      clear hkn
      go_wp2
      go_ret
      exact ⟨ret_int HZ.out, rfl⟩

end Go.Proofs.Ytmcalioldphfeaa

/-
  A machine that is an argument.
-/
namespace Go.Proofs.Ytmcalioldphfeaa
set_option linter.unusedVariables false
set_option linter.unusedSimpArgs false
open Go.ChangeShapes Go.WideShapes Go.ChangeAt Go.RowKit Go.Deep

section
variable {H : Type} {enc : TypeId × Value → H} {W : World}
theorem opens_int64 : Opens enc Try.prog W 2 (fun v x => v = .int .i64 x ∧ Fit x) := opens_int Try.underlying2
theorem opens_int64S : Opens enc Try.prog W 25 (fun v l => RdI W W.heap.size v l ∧ ∀ x ∈ l, Fit x) := opens_ints Try.underlying25 Try.underlying2 (by kernel_rfl)
theorem opens_int64Sc : Opens enc Try.prog W 25 (fun v l => RdI W W.heap.size v l ∧ CapOk v) := fun n v y h => by
  obtain ⟨l, hl, _⟩ := opens_int64S n v y h
  refine ⟨l, hl, ?_⟩
  rcases open_ints Try.underlying25 Try.underlying2 (by kernel_rfl) h with ⟨hcs, _⟩ | ⟨a, n', c, zs, hcs, _, hl', _⟩
  · simp at hcs
    exact ⟨none, 0, 0, hcs, Nat.le_refl _⟩
  · simp at hcs
    exact ⟨_, n', c, hcs, hl'⟩
theorem opens_int64SS : Opens enc Try.prog W 22 (fun v l => RdLL W W.heap.size v l) := by
  refine opens_rdN (R := rLL) (sz := 1) Try.underlying22 (by kernel_rfl) (by decide) ?_
  intro us n y hl h
  match us, hl with
  | [s], _ =>
    obtain ⟨l, hl, hc⟩ := opens_int64Sc _ _ _ h
    exact ⟨l, s, rfl, hl, hc⟩
set_option maxRecDepth 100000 in
theorem opens_carS : Opens enc Try.prog W 23 (fun v l => RdCs W W.heap.size v l) := by
  intro n v y h
  obtain ⟨l, A, n', c, rfl, hn, hl, hh⟩ := opens_rdN (R := fun _ _ us (x : Car) => us = x.cells) (sz := 2) Try.underlying23 (by kernel_rfl) (by decide) (by
    intro us n y hl h
    obtain ⟨hs, hf⟩ := opens_fields Try.underlying130 (by kernel_rfl) (by kernel_rfl) h
    obtain ⟨u0, q0, z0, g0, t0⟩ := hf 0 _ rfl
    obtain ⟨u1, q1, z1, g1, t1⟩ := hf 1 _ rfl
    obtain ⟨b, rfl⟩ := opens_bool (enc := enc) (W := W) (P := Try.prog) Try.underlying4 _ _ _ t0
    obtain ⟨p, rfl, _⟩ := opens_int64 _ _ _ t1
    match us, hl with
    | [a, c], _ =>
      simp at g0 g1
      exact ⟨⟨b, p⟩, by rw [g0, g1]⟩) _ _ _ h
  refine ⟨l, A, n', c, rfl, hn, hl, fun k hk => ?_⟩
  obtain ⟨b, off, x, us, h1, h2, h3, h4, h5, rfl⟩ := hh k hk
  exact ⟨b, off, x, h1, h2, h3, h5⟩
set_option maxRecDepth 100000 in
theorem opens_infoS : Opens enc Try.prog W 24 (fun v l => RdIs W W.heap.size v l) := by
  refine opens_rdN (R := rInf) (sz := 6) Try.underlying24 (by kernel_rfl) (by decide) ?_
  intro us n y hl h
  obtain ⟨hs, hf⟩ := opens_fields Try.underlying114 (by kernel_rfl) (by kernel_rfl) h
  obtain ⟨u0, q0, z0, g0, t0⟩ := hf 0 _ rfl
  obtain ⟨u1, q1, z1, g1, t1⟩ := hf 1 _ rfl
  obtain ⟨u2, q2, z2, g2, t2⟩ := hf 2 _ rfl
  obtain ⟨u3, q3, z3, g3, t3⟩ := hf 3 _ rfl
  obtain ⟨u4, q4, z4, g4, t4⟩ := hf 4 _ rfl
  obtain ⟨u5, q5, z5, g5, t5⟩ := hf 5 _ rfl
  obtain ⟨x0, rfl, _⟩ := opens_int64 _ _ _ t0
  obtain ⟨x1, rfl, _⟩ := opens_int64 _ _ _ t1
  obtain ⟨x2, rfl, _⟩ := opens_int64 _ _ _ t2
  obtain ⟨x3, rfl, _⟩ := opens_int64 _ _ _ t3
  obtain ⟨x4, rfl, _⟩ := opens_int64 _ _ _ t4
  obtain ⟨ps, hps, hcp⟩ := opens_int64Sc _ _ _ t5
  match us, hl with
  | [a, b, c, d, e, f], _ =>
    simp at g0 g1 g2 g3 g4 g5
    exact ⟨⟨x0, x1, x2, x3, x4, ps⟩, u5, by rw [g0, g1, g2, g3, g4, g5], hps, hcp⟩

set_option maxRecDepth 100000 in
theorem open_machine {base : Nat} {d : DataW H} {p : List MemPlace} {v : Value} (ho : Value.okWide Try.prog W .any base 27 v)
    (h : DataW.Trod enc Try.prog W 0 (fun _ => true) true 27 v d p) : ∃ m : Mc, RdM W W.heap.size v m ∧ Fit m.wd ∧ Fit m.rk := by
  obtain ⟨cs, rfl, hs, hf⟩ := opens_struct Try.underlying27 (by kernel_rfl) (by kernel_rfl) ho h
  obtain ⟨u0, q0, z0, g0, t0⟩ := hf 0 _ rfl
  obtain ⟨u1, q1, z1, g1, t1⟩ := hf 1 _ rfl
  obtain ⟨u2, q2, z2, g2, t2⟩ := hf 2 _ rfl
  obtain ⟨u3, q3, z3, g3, t3⟩ := hf 3 _ rfl
  obtain ⟨u4, q4, z4, g4, t4⟩ := hf 4 _ rfl
  obtain ⟨u5, q5, z5, g5, t5⟩ := hf 5 _ rfl
  obtain ⟨u6, q6, z6, g6, t6⟩ := hf 6 _ rfl
  obtain ⟨x0, rfl, f0⟩ := opens_int64 _ _ _ t0
  obtain ⟨x1, rfl, f1⟩ := opens_int64 _ _ _ t1
  obtain ⟨fr, h2⟩ := opens_int64SS _ _ _ t2
  obtain ⟨bk, h3⟩ := opens_int64SS _ _ _ t3
  obtain ⟨ca, h4⟩ := opens_carS _ _ _ t4
  obtain ⟨ls, h5⟩ := opens_infoS _ _ _ t5
  obtain ⟨dr, h6, h7⟩ := opens_int64Sc _ _ _ t6
  refine ⟨⟨x0, x1, fr, bk, ca, ls, dr⟩, ⟨u2, u3, u4, u5, u6, ?_, h2, h3, h4, h5, h6, h7⟩, f0, f1⟩
  congr 1
  apply Array.ext'
  obtain ⟨cl⟩ := cs
  simp at hs g0 g1 g2 g3 g4 g5 g6
  match cl, hs with
  | [a, b, c, d, e, f, g], _ =>
    simp at g0 g1 g2 g3 g4 g5 g6
    rw [g0, g1, g2, g3, g4, g5, g6]
end

end Go.Proofs.Ytmcalioldphfeaa

/-
  Machines by value in the laws: their form, kept behind what only adds memory or turns other rows.
-/
namespace Go.Proofs.Ytmcalioldphfeaa
set_option linter.unusedVariables false
set_option linter.unusedSimpArgs false
open Go.RowKit

theorem RdM.shape {w : World} {B : Nat} {v : Value} {m : Mc} (h : RdM w B v m) : ∃ AF cF AG cG AC cC AI cI AD cD, v = .agg #[.int .i64 m.wd, .int .i64 m.rk, .slice AF m.fr.length cF, .slice AG m.bk.length cG, .slice AC m.cs.length cC, .slice AI m.ls.length cI, .slice AD m.dr.length cD] := by
  obtain ⟨f, b, cs, ls, d, rfl, h1, h2, h3, h4, h5, h6⟩ := h
  obtain ⟨AF, cF, rfl⟩ := RdN.shape h1
  obtain ⟨AG, cG, rfl⟩ := RdN.shape h2
  obtain ⟨AC, cC, rfl⟩ := RdS.lens h3
  obtain ⟨AI, cI, rfl⟩ := RdN.shape h4
  obtain ⟨AD, cD, rfl⟩ := RdI.len h5
  exact ⟨_, _, _, _, _, _, _, _, _, _, rfl⟩
theorem RdM.of_own {w : World} {lo hi : Nat} {v : Value} {m : Mc} (h : OwM w lo hi v m) : RdM w hi v m := by
  obtain ⟨f, b, cs, ls, d, rfl, a0, a1, a2, a3, a4, a5, g0, g1, g2, g3, g4, g5, g6, h1, h2, h3, h4, h5⟩ := h
  refine ⟨f, b, cs, ls, d, rfl, RdLL.more (RdN.of_own (fun lo hi us x h => oLL_rd h) (fun B B' us x hB h => rLL_more hB us x h) (by decide) h1) (by omega), RdLL.more (RdN.of_own (fun lo hi us x h => oLL_rd h) (fun B B' us x hB h => rLL_more hB us x h) (by decide) h2) (by omega),
    (RdS.of_own Car.len h3).more (by omega), RdIs.more (RdN.of_own (fun lo hi us x h => oInf_rd h) (fun B B' us x hB h => rInf_more hB us x h) (by decide) h4) (by omega), (RdI.of_own h5).more (by omega), h5.cap⟩
theorem OwM.shape {w : World} {lo hi : Nat} {v : Value} {m : Mc} (h : OwM w lo hi v m) : ∃ AF cF AG cG AC cC AI cI AD cD, v = .agg #[.int .i64 m.wd, .int .i64 m.rk, .slice AF m.fr.length cF, .slice AG m.bk.length cG, .slice AC m.cs.length cC, .slice AI m.ls.length cI, .slice AD m.dr.length cD] := RdM.shape (RdM.of_own h)
theorem OwM.below {w w' : World} {lo hi : Nat} {v : Value} {m : Mc} (h : OwM w lo hi v m) (hb : Below hi w w') : OwM w' lo hi v m := by
  obtain ⟨f, b, cs, ls, d, e, a0, a1, a2, a3, a4, a5, g0, g1, g2, g3, g4, g5, g6, h1, h2, h3, h4, h5⟩ := h
  exact ⟨f, b, cs, ls, d, e, a0, a1, a2, a3, a4, a5, g0, g1, g2, g3, g4, g5, g6, OwLL.below h1 (hb.mono (by omega)), OwLL.below h2 (hb.mono (by omega)), h3.below (hb.mono (by omega)), OwIs.below h4 (hb.mono (by omega)), h5.below (hb.mono (by omega))⟩
theorem OwM.only {w w' : World} {lo hi a b : Nat} {v : Value} {m : Mc} (h : OwM w lo hi v m) (hw : Only a b w w') (hd : hi ≤ a ∨ b ≤ lo) (hs : hi ≤ w.heap.size) : OwM w' lo hi v m := by
  obtain ⟨f, b', cs, ls, d, e, a0, a1, a2, a3, a4, a5, g0, g1, g2, g3, g4, g5, g6, h1, h2, h3, h4, h5⟩ := h
  exact ⟨f, b', cs, ls, d, e, a0, a1, a2, a3, a4, a5, g0, g1, g2, g3, g4, g5, g6, OwLL.only h1 hw (by omega) (by omega), OwLL.only h2 hw (by omega) (by omega), h3.only hw (by omega) (by omega), OwIs.only h4 hw (by omega) (by omega), h5.only hw (by omega) (by omega)⟩

end Go.Proofs.Ytmcalioldphfeaa

/-
  A machine as a result, each row in a window of its own, in the laws: marked, and held.
-/
namespace Go.Proofs.Ytmcalioldphfeaa
set_option linter.unusedVariables false
set_option linter.unusedSimpArgs false
open Go.RowKit

/-- The marks of carriers from K on. -/
def mkB3 (z : Int) : Bool := z % 3 == 0
def vMC (K : Int) (n : Nat) : List Value := (List.range (n * 2)).map fun j : Nat => if j % 2 = 0 then .bool (mkB3 (K + (j : Int))) else .int .i64 (K + (j : Int))
set_option maxHeartbeats 4000000 in
set_option maxRecDepth 100000 in
theorem markCs2_any (v : Value) (n : Nat) (xs : List Value) (K : Int) (w : World) (lo hi : Nat) (ho : OwC w lo hi 52 2 v n xs) (hK : 0 ≤ K) (hn : K + (n : Int) * 2 ≤ 1000000000000) :
    Calls Try.prog 52 #[v, .int .i64 K] w fun e w' => e = .returned (.int .i64 (K + (n : Int) * 2)) ∧ OwC w' lo hi 52 2 v n (vMC K n) ∧ Only lo hi w w' := by
  rcases ho.2 with ⟨rfl, A, c, rfl⟩ | ⟨g, cap, cur, rfl, hlo, hhi, hg, hnc, hcap, hsz, hx⟩
  · go_enter Try.func52, Try.ntmps52
    go_wp2
    go_loopw [1, 5] (fun t i wr => t = .int .i64 K ∧ i = .int .i64 0 ∧ w = wr) (fun _ i _ => 0 - (intOf i).toNat)
    case atStart => exact ⟨rfl, rfl, rfl⟩
    case round =>
      rename_i wr
      obtain ⟨rfl, rfl, rfl⟩ := hrel
      go_wp2
      go_ret
      exact ⟨ret_int (by simp), ⟨by simp [vMC], .inl ⟨rfl, A, c, rfl⟩⟩, Only.refl _ _ _⟩
  · have hrow0 : w.rowIs g 52 (cap * 2) (fun i => cur.getD i undef) := ⟨cur, hg, hsz, fun i hi => row_getD (by omega)⟩
    have HR0 := Lib.hid hrow0
    have Hnc := Lib.hid hnc
    have Hcap := Lib.hid hcap
    clear hx hg hrow0 ho hsz hnc
    go_enter Try.func52, Try.ntmps52
    go_wp2
    go_loopw [1, 5] (fun t i wr => ∃ (k : Nat) (f : Nat → Value), k ≤ n ∧ i = .int .i64 k ∧ t = .int .i64 (K + (k : Int) * 2) ∧ wr.rowIs g 52 (cap * 2) f ∧ Hid (∀ j : Nat, j < k * 2 → f j = if j % 2 = 0 then .bool (mkB3 (K + (j : Int))) else .int .i64 (K + (j : Int))) ∧ Only lo hi w wr) (fun _ i _ => n - (intOf i).toNat)
    case atStart => exact ⟨0, _, Nat.zero_le _, rfl, by simp, HR0.out, fun j hj => absurd hj (by omega), Only.refl _ _ _⟩
    case round =>
      rename_i wr
      obtain ⟨k, f, hk, rfl, rfl, hrow, hf, hO⟩ := hrel
      by_cases hlt : k < n
      · have hcc := Hnc.out
        have d0 := hrow.cell (i := k * 2) (by omega)
        have d1 := hrow.cell (i := k * 2 + 1) (by omega)
        have g0 := fun i => hrow.frozen i
        have HR := Lib.hid hrow
        have HO := Lib.hid hO
        clear hrow hO hcc
        go_wp2
        refine ⟨⟨k + 1, _, by omega, by go_num, by first | go_num | (congr 1; push_cast; omega), (HR.out.set _ _).set _ _, fun j hj => ?_, (HO.out.setCell hlo hhi _).setCell hlo hhi _⟩, by simp [intOf]; omega⟩
        show (if j = k * 2 + 1 then _ else if j = k * 2 then _ else f j) = _
        by_cases e1 : j = k * 2 + 1
        · subst e1
          rw [if_pos rfl, if_neg (by omega)]
          congr 1
          push_cast
          omega
        · rw [if_neg e1]
          by_cases e2 : j = k * 2
          · subst e2
            rw [if_pos rfl, if_pos (by omega)]
            unfold mkB3
            rw [show ((k * 2 : Nat) : Int) = (k : Int) * 2 by push_cast; rfl]
          · rw [if_neg e2]
            exact hf.out j (by omega)
      · have HR := Lib.hid hrow
        have HO := Lib.hid hO
        clear hrow hO
        obtain rfl : k = n := by omega
        have h1 := OwC.of_rowIs (lo := lo) (hi := hi) HR.out hlo hhi Hnc.out Hcap.out
        have e : (List.range (k * 2)).map f = vMC K k := by
          unfold vMC
          apply List.map_congr_left
          intro j hj
          exact hf.out j (List.mem_range.1 hj)
        rw [e] at h1
        have HE := Lib.hid h1
        clear h1 e
        go_wp2
        go_ret
        exact ⟨rfl, HE.out, HO.out⟩
set_option maxHeartbeats 4000000 in
set_option maxRecDepth 100000 in
theorem heldCs2_any (v : Value) (n : Nat) (K : Int) (w : World) (lo hi : Nat) (ho : OwC w lo hi 52 2 v n (vMC K n)) (hK : 0 ≤ K) (hn : K + (n : Int) * 2 ≤ 1000000000000) :
    Calls Try.prog 56 #[v, .int .i64 K] w fun e w' => e = .returned (.int .i64 (K + (n : Int) * 2)) ∧ w = w' := by
  obtain ⟨A, c, rfl, hbig, hcell⟩ := ho.cells
  have HCE := Lib.hid hcell
  clear ho hcell
  go_enter Try.func56, Try.ntmps56
  go_wp2
  go_loop [1, 5] (fun t i => ∃ k : Nat, k ≤ n ∧ i = .int .i64 k ∧ t = .int .i64 (K + (k : Int) * 2)) (fun _ i => n - (intOf i).toNat)
  case atStart => exact ⟨0, Nat.zero_le _, rfl, by simp⟩
  case round =>
    obtain ⟨k, hk, rfl, rfl⟩ := hrel
    by_cases hlt : k < n
    · obtain ⟨g, rfl, hg0, hg1, -, hcc⟩ := HCE.out k hlt
      have d0 := hcc (k * 2) (.bool ((K + (k : Int) * 2) % 3 == 0)) (by omega) (by unfold vMC; rw [List.getElem?_map, List.getElem?_range (by omega)]; simp [show k * 2 % 2 = 0 by omega, mkB3])
      have d1 := hcc (k * 2 + 1) (.int .i64 (K + (k : Int) * 2 + 1)) (by omega) (by unfold vMC; rw [List.getElem?_map, List.getElem?_range (by omega)]; simp [show ¬ (k * 2 + 1) % 2 = 0 by omega]; omega)
      generalize hbb : ((K + (k : Int) * 2) % 3 == 0) = bb at *
      clear hcc
      go_wp2
      exact ⟨⟨k + 1, by omega, by go_num, by first | go_num | (congr 1; push_cast; omega)⟩, by simp [intOf]; omega⟩
    · obtain rfl : k = n := by omega
      go_wp2
      go_ret
      exact ⟨rfl, rfl⟩

end Go.Proofs.Ytmcalioldphfeaa

/-
  A machine as a result, each row in a window of its own: the laws' markMachine and heldMachine.
-/
namespace Go.Proofs.Ytmcalioldphfeaa
set_option linter.unusedVariables false
set_option linter.unusedSimpArgs false
open Go.RowKit

theorem LLf.congr {R R' : Nat → Spot} {j0 : Nat} {ix : Nat → Nat} {v : Value} {l : List (List Int)} (h : LLf R j0 ix v l) (h0 : R' j0 = R j0) (h1 : ∀ k, R' (ix k) = R (ix k)) : LLf R' j0 ix v l := by
  obtain ⟨⟨xs, e, hx⟩, h2⟩ := h
  exact ⟨⟨xs, by rw [h0]; exact e, fun k hk => by rw [h1]; exact hx k hk⟩, fun k x hk => by rw [h1]; exact h2 k x hk⟩
theorem LLm.congr {R R' : Nat → Spot} {j0 : Nat} {ix : Nat → Nat} {v : Value} {l : List (List Int)} {K : Int} (h : LLm R j0 ix v l K) (h0 : R' j0 = R j0) (h1 : ∀ k, R' (ix k) = R (ix k)) : LLm R' j0 ix v l K := by
  obtain ⟨⟨xs, e, hx⟩, h2⟩ := h
  exact ⟨⟨xs, by rw [h0]; exact e, fun k hk => by rw [h1]; exact hx k hk⟩, fun k x hk => by rw [h1]; exact h2 k x hk⟩
theorem ISf.congr {R R' : Nat → Spot} {j0 : Nat} {ix : Nat → Nat} {v : Value} {l : List Inf} (h : ISf R j0 ix v l) (h0 : R' j0 = R j0) (h1 : ∀ k, R' (ix k) = R (ix k)) : ISf R' j0 ix v l := by
  obtain ⟨⟨xs, e, hx⟩, h2⟩ := h
  exact ⟨⟨xs, by rw [h0]; exact e, fun k x hk => by rw [h1]; exact hx k x hk⟩, fun k x hk => by rw [h1]; exact h2 k x hk⟩
theorem ISm.congr {R R' : Nat → Spot} {j0 : Nat} {ix : Nat → Nat} {v : Value} {l : List Inf} {K : Int} (h : ISm R j0 ix v l K) (h0 : R' j0 = R j0) (h1 : ∀ k, R' (ix k) = R (ix k)) : ISm R' j0 ix v l K := by
  obtain ⟨⟨xs, e, hx⟩, h2⟩ := h
  exact ⟨⟨xs, by rw [h0]; exact e, fun k x hk => by rw [h1]; exact hx k x hk⟩, fun k x hk => by rw [h1]; exact h2 k x hk⟩
/-- The rows of a machine. -/
structure MR (m : Mc) (R : Nat → Spot) : Prop where
  fr : LLf R 1 iF (R 1).v m.fr
  bk : LLf R 2 iB (R 2).v m.bk
  cs : R 3 = ⟨52, 2, (R 3).v, m.cs.length, vS Car.cells m.cs⟩
  ls : ISf R 4 iP (R 4).v m.ls
  lc : ∃ xs, R 4 = ⟨102, 6, (R 4).v, m.ls.length, xs⟩ ∧ ∀ k x, m.ls[k]? = some x → ∀ j u, [Value.int .i64 x.k, .int .i64 x.y, .int .i64 x.b, .int .i64 x.p, .int .i64 x.d, (R (iP k)).v][j]? = some u → xs[k * 6 + j]? = some u
  dr : R 5 = spI (R 5).v m.dr
theorem MR.of_mst {w : World} {B g : Nat} {m : Mc} {S : Nat → Spot} (h : MSt w B g m S) : MR m S :=
  ⟨⟨h.fr, h.fl⟩, ⟨h.bk, h.bl⟩, h.cs, ⟨by
    obtain ⟨xs, e, hx⟩ := h.ls
    exact ⟨xs, e, fun k x hk => hx k x hk 5 _ rfl⟩, h.pl⟩, h.ls, h.dr⟩
/-- Its rows marked. -/
structure MK (m : Mc) (R : Nat → Spot) : Prop where
  fr : LLm R 1 iF (R 1).v m.fr 1
  bk : LLm R 2 iB (R 2).v m.bk (1 + (sumL List.length m.fr : Int))
  cs : R 3 = ⟨52, 2, (R 3).v, m.cs.length, vMC (1 + (sumL List.length m.fr : Int) + (sumL List.length m.bk : Int)) m.cs.length⟩
  ls : ISm R 4 iP (R 4).v m.ls (1 + (sumL List.length m.fr : Int) + (sumL List.length m.bk : Int) + (m.cs.length : Int) * 2)
  dr : R 5 = spK (R 5).v m.dr.length (1 + (sumL List.length m.fr : Int) + (sumL List.length m.bk : Int) + (m.cs.length : Int) * 2 + (m.ls.length : Int) * 5 + (sumL infL m.ls : Int))
/-- A machine of the call's own, its rows in windows apart. -/
def OwMs (w : World) (a z : Nat) (v : Value) (m : Mc) : Prop :=
  ∃ lo hi R, v = .agg (mcV m.wd m.rk (R 1).v (R 2).v (R 3).v (R 4).v (R 5).v) ∧ Fam w lo hi a z R ∧ MR m R
def OmMs (w : World) (a z : Nat) (v : Value) (m : Mc) : Prop :=
  ∃ lo hi R, v = .agg (mcV m.wd m.rk (R 1).v (R 2).v (R 3).v (R 4).v (R 5).v) ∧ Fam w lo hi a z R ∧ MK m R
theorem OwMs.below {w w' : World} {a z : Nat} {v : Value} {m : Mc} (h : OwMs w a z v m) (hb : Below z w w') : OwMs w' a z v m := by
  obtain ⟨lo, hi, R, e, h1, h2⟩ := h
  exact ⟨lo, hi, R, e, h1.below hb, h2⟩
theorem OwMs.only {w w' : World} {a z c d : Nat} {v : Value} {m : Mc} (h : OwMs w a z v m) (hw : Only c d w w') (hd : z ≤ c ∨ d ≤ a) (hs : z ≤ w.heap.size) : OwMs w' a z v m := by
  obtain ⟨lo, hi, R, e, h1, h2⟩ := h
  exact ⟨lo, hi, R, e, h1.only hw hd, h2⟩
theorem OmMs.below {w w' : World} {a z : Nat} {v : Value} {m : Mc} (h : OmMs w a z v m) (hb : Below z w w') : OmMs w' a z v m := by
  obtain ⟨lo, hi, R, e, h1, h2⟩ := h
  exact ⟨lo, hi, R, e, h1.below hb, h2⟩
theorem OwMs.of_mst {w : World} {B g : Nat} {m : Mc} {S : Nat → Spot} (h : MSt w B g m S) (hB : B ≤ w.heap.size) : OwMs w B w.heap.size (.agg (mcV m.wd m.rk (S 1).v (S 2).v (S 3).v (S 4).v (S 5).v)) m :=
  ⟨_, _, S, rfl, Fam.of_spots h.sp hB, MR.of_mst h⟩
theorem RdN.of_owc {α : Type} {R : World → Nat → List Value → α → Prop} {sz : Nat} {w : World} {lo hi E : Nat} {v : Value} {l : List α} {xs : List Value} (h : OwC w lo hi E sz v l.length xs)
    (hx : ∀ k x, l[k]? = some x → ∃ us, us.length = sz ∧ (∀ j u, us[j]? = some u → xs[k * sz + j]? = some u) ∧ R w hi us x) : RdN R sz w hi v l := by
  obtain ⟨A, c, rfl, hn, hc⟩ := h.cells
  refine ⟨A, l.length, c, rfl, hn, rfl, fun k hk => ?_⟩
  obtain ⟨g, rfl, hg0, hg1, hfr, hcell⟩ := hc k hk
  have hxk : l[k]? = some l[k] := List.getElem?_eq_getElem hk
  obtain ⟨us, hu1, hu2, hu3⟩ := hx k _ hxk
  refine ⟨g, 0, l[k], us, rfl, by omega, hxk, hu1, fun j u hu => ?_, hu3⟩
  have hj : j < sz := by have := (List.getElem?_eq_some_iff.1 hu).1; omega
  have hlt : k * sz + j < l.length * sz := by
    have : (k + 1) * sz ≤ l.length * sz := Nat.mul_le_mul_right _ hk
    rw [Nat.add_mul] at this
    omega
  rw [Nat.zero_add]
  exact hcell _ u hlt (hu2 j u hu)
theorem OwMs.rd {w : World} {a z : Nat} {v : Value} {m : Mc} (h : OwMs w a z v m) : RdM w z v m := by
  obtain ⟨lo, hi, R, rfl, h, h2⟩ := h
  have rdI : ∀ {j : Nat} {u : Value} {l : List Int}, R j = spI u l → RdI w z u l ∧ CapOk u := fun e => ⟨(RdI.of_own (h.at_ e)).more (h.top _), (h.at_ e).cap⟩
  refine ⟨_, _, _, _, _, rfl, ?_, ?_, ?_, ?_, (rdI h2.dr).1, (rdI h2.dr).2⟩
  · obtain ⟨xs, e, hx⟩ := h2.fr.hd
    refine RdN.of_owc ((h.at_ e).wide (Nat.le_refl _) (h.top _)) (fun k x hk => ⟨[(R (iF k)).v], rfl, fun j u hu => ?_, _, rfl, rdI (h2.fr.ls k x hk)⟩)
    obtain rfl : j = 0 := by have := (List.getElem?_eq_some_iff.1 hu).1; simp at this; omega
    rw [Nat.mul_one, Nat.add_zero, hx k (List.getElem?_eq_some_iff.1 hk).1]
    exact hu
  · obtain ⟨xs, e, hx⟩ := h2.bk.hd
    refine RdN.of_owc ((h.at_ e).wide (Nat.le_refl _) (h.top _)) (fun k x hk => ⟨[(R (iB k)).v], rfl, fun j u hu => ?_, _, rfl, rdI (h2.bk.ls k x hk)⟩)
    obtain rfl : j = 0 := by have := (List.getElem?_eq_some_iff.1 hu).1; simp at this; omega
    rw [Nat.mul_one, Nat.add_zero, hx k (List.getElem?_eq_some_iff.1 hk).1]
    exact hu
  · exact (RdS.of_own Car.len (h.at_ h2.cs)).more (h.top _)
  · obtain ⟨xs, e, hx⟩ := h2.lc
    exact RdN.of_owc ((h.at_ e).wide (Nat.le_refl _) (h.top _)) (fun k x hk => ⟨_, rfl, hx k x hk, _, rfl, rdI (h2.ls.ls k x hk)⟩)
theorem OwMs.shape {w : World} {a z : Nat} {v : Value} {m : Mc} (h : OwMs w a z v m) : ∃ AF cF AG cG AC cC AI cI AD cD, v = .agg #[.int .i64 m.wd, .int .i64 m.rk, .slice AF m.fr.length cF, .slice AG m.bk.length cG, .slice AC m.cs.length cC, .slice AI m.ls.length cI, .slice AD m.dr.length cD] := RdM.shape h.rd
def GivesMs (w : World) (m : Mc) (code : Int) (e : Ending) (w' : World) : Prop := ∃ v, e = .returned (.tuple #[v, .int .i64 code]) ∧ OwMs w' w.heap.size w'.heap.size v m ∧ Below w.heap.size w w'
/-- The empty machine. -/
def nilMc : Mc := ⟨0, 0, [], [], [], [], []⟩
theorem OwMs.nil (w : World) (a z : Nat) (hz : a ≤ z) (hs : z ≤ w.heap.size) : OwMs w a z (.agg (mcV 0 0 (.slice none 0 0) (.slice none 0 0) (.slice none 0 0) (.slice none 0 0) (.slice none 0 0))) nilMc := by
  refine ⟨fun _ => a, fun _ => a, fun j => if j = 1 ∨ j = 2 then ⟨25, 1, .slice none 0 0, 0, []⟩ else if j = 3 then ⟨52, 2, .slice none 0 0, 0, []⟩ else if j = 4 then ⟨102, 6, .slice none 0 0, 0, []⟩ else ⟨2, 1, .slice none 0 0, 0, []⟩, rfl, ⟨fun j => ?_, fun _ _ _ => .inl (Nat.le_refl _), fun _ => Nat.le_refl _, fun _ => hz, hs⟩, ?_⟩
  · split
    · exact OwC.nil
    · split
      · exact OwC.nil
      · split
        · exact OwC.nil
        · exact OwC.nil
  · exact ⟨⟨⟨[], rfl, fun k hk => absurd hk (by simp [nilMc])⟩, fun k x hk => by simp [nilMc] at hk⟩, ⟨⟨[], rfl, fun k hk => absurd hk (by simp [nilMc])⟩, fun k x hk => by simp [nilMc] at hk⟩, rfl, ⟨⟨[], rfl, fun k x hk => by simp [nilMc] at hk⟩, fun k x hk => by simp [nilMc] at hk⟩, ⟨[], rfl, fun k x hk => by simp [nilMc] at hk⟩, rfl⟩
theorem SmM.marks {m : Mc} (h : SmM m) : 0 ≤ mkM m ∧ mkM m ≤ 5242880 := by
  have h1 : ∀ (q : List (List Int)), (∀ x ∈ q, x.length ≤ 1000) → sumL List.length q ≤ q.length * 1000 := by
    intro q
    induction q with
    | nil => intro _; simp [sumL]
    | cons y ys ih =>
      intro hq
      have h3 := ih (fun x hx => hq x (by simp [hx]))
      have h4 := hq y (by simp)
      simp only [sumL, List.map_cons, List.sum_cons, List.length_cons] at h3 ⊢
      omega
  have h2 : ∀ (q : List Inf), (∀ x ∈ q, x.ps.length ≤ 1000) → sumL infL q ≤ q.length * 1000 := by
    intro q
    induction q with
    | nil => intro _; simp [sumL]
    | cons y ys ih =>
      intro hq
      have h3 := ih (fun x hx => hq x (by simp [hx]))
      have h4 := hq y (by simp)
      simp only [sumL, List.map_cons, List.sum_cons, List.length_cons, infL] at h3 ⊢
      omega
  have e1 := h1 _ h.frs
  have e2 := h1 _ h.bks
  have e3 := h2 _ h.lss
  have := h.fr; have := h.bk; have := h.cs; have := h.ls; have := h.dr
  unfold mkM
  omega
theorem ixF_inj : ∀ i j, iF i = iF j → i = j := fun i j h => by unfold iF at h; omega
theorem ixB_inj : ∀ i j, iB i = iB j → i = j := fun i j h => by unfold iB at h; omega
theorem ixP_inj : ∀ i j, iP i = iP j → i = j := fun i j h => by unfold iP at h; omega

set_option maxHeartbeats 4000000 in
set_option maxRecDepth 100000 in
theorem markMs_any (v : Value) (m : Mc) (w : World) (a z : Nat) (ho : OwMs w a z v m) (h0 : 0 ≤ mkM m) (hn : mkM m ≤ 5242880) :
    Calls Try.prog 13 #[v, .int .i64 1] w fun e w' => e = .returned (.int .i64 (1 + mkM m)) ∧ OmMs w' a z v m ∧ Only a z w w' := by
  have hshape := ho.shape
  obtain ⟨lo, hi, R, e, hf, hm⟩ := ho
  obtain ⟨AF, cF, AG, cG, AC, cC, AI, cI, AD, cD, e2⟩ := hshape
  rw [e2] at e
  injection e with e
  have hv1 : (R 1).v = .slice AF m.fr.length cF := by have := congrArg (fun t => t[2]?) e; simpa using this.symm
  have hv2 : (R 2).v = .slice AG m.bk.length cG := by have := congrArg (fun t => t[3]?) e; simpa using this.symm
  have hv3 : (R 3).v = .slice AC m.cs.length cC := by have := congrArg (fun t => t[4]?) e; simpa using this.symm
  have hv4 : (R 4).v = .slice AI m.ls.length cI := by have := congrArg (fun t => t[5]?) e; simpa using this.symm
  have hv5 : (R 5).v = .slice AD m.dr.length cD := by have := congrArg (fun t => t[6]?) e; simpa using this.symm
  subst e2
  clear e
  have e1 : (sumL List.length m.fr : Int) + (sumL List.length m.bk : Int) + (m.cs.length : Int) * 2 + ((m.ls.length : Int) * 5 + (sumL infL m.ls : Int)) + (m.dr.length : Int) ≤ 5242880 := hn
  have HV := Lib.hid (show mkM m = (sumL List.length m.fr : Int) + (sumL List.length m.bk : Int) + (m.cs.length : Int) * 2 + ((m.ls.length : Int) * 5 + (sumL infL m.ls : Int)) + (m.dr.length : Int) from rfl)
  clear hn h0
  obtain ⟨⟨q1, ls1⟩, ⟨q2, ls2⟩, hcs, ⟨q4, ls4⟩, -, hdr⟩ := hm
  rw [hv1] at q1
  rw [hv2] at q2
  rw [hv3] at hcs
  rw [hv4] at q4
  rw [hv5] at hdr
  have L1 := Lib.hid (show LLf R 1 iF (.slice AF m.fr.length cF) m.fr from ⟨q1, ls1⟩)
  have L2 := Lib.hid (show LLf R 2 iB (.slice AG m.bk.length cG) m.bk from ⟨q2, ls2⟩)
  have L3 := Lib.hid hcs
  have L4 := Lib.hid (show ISf R 4 iP (.slice AI m.ls.length cI) m.ls from ⟨q4, ls4⟩)
  have L5 := Lib.hid hdr
  have HV5 := Lib.hid (And.intro hv1 (And.intro hv2 (And.intro hv3 (And.intro hv4 hv5))))
  clear q1 ls1 q2 ls2 hcs q4 ls4 hdr hv1 hv2 hv3 hv4 hv5
  have hcl : CellsAt (w.alloc (.cells #[.int .i64 m.wd, .int .i64 m.rk, .slice AF m.fr.length cF, .slice AG m.bk.length cG, .slice AC m.cs.length cC, .slice AI m.ls.length cI, .slice AD m.dr.length cD] 32)) w.heap.size 0 [.int .i64 m.wd, .int .i64 m.rk, .slice AF m.fr.length cF, .slice AG m.bk.length cG, .slice AC m.cs.length cC, .slice AI m.ls.length cI, .slice AD m.dr.length cD] := CellsAt.of_alloc
  have hbw : Below w.heap.size w (w.alloc (.cells #[.int .i64 m.wd, .int .i64 m.rk, .slice AF m.fr.length cF, .slice AG m.bk.length cG, .slice AC m.cs.length cC, .slice AI m.ls.length cI, .slice AD m.dr.length cD] 32)) := (Below.refl _ _).alloc (Nat.le_refl _) _
  have hsw : (w.alloc (.cells #[.int .i64 m.wd, .int .i64 m.rk, .slice AF m.fr.length cF, .slice AG m.bk.length cG, .slice AC m.cs.length cC, .slice AI m.ls.length cI, .slice AD m.dr.length cD] 32)).heap.size = w.heap.size + 1 := by simp
  have HZ := Lib.hid hf.z
  have FA := Lib.hid (hf.below (hbw.mono hf.z))
  have HCL := Lib.hid hcl
  have HSW := Lib.hid hsw
  have BW : Hid (Only a z w (w.alloc (.cells #[.int .i64 m.wd, .int .i64 m.rk, .slice AF m.fr.length cF, .slice AG m.bk.length cG, .slice AC m.cs.length cC, .slice AI m.ls.length cI, .slice AD m.dr.length cD] 32))) := (Only.refl _ _ _).alloc _
  clear hf hcl hbw hsw
  go_enter Try.func13, Try.ntmps13
  go_wp2_with fail
  refine (markLLf_any _ m.fr _ _ lo hi a z R 1 iF FA.out L1.out ixF_inj (fun k => by unfold iF; omega) (by omega) (by omega)).mono ?_
  rintro e w1 ⟨rfl, ⟨R1, f1, k1, s1⟩, b1⟩
  have z1 : w.heap.size + 1 ≤ w1.heap.size := by have := b1.size; have := HSW.out; omega
  have HC1 := Lib.hid (HCL.out.only b1 (by have := HZ.out; omega) (by have := HSW.out; omega))
  have B1 := Lib.hid (BW.out.trans b1)
  have F1 := Lib.hid f1
  have K1 := Lib.hid k1
  have M2 := Lib.hid (L2.out.congr (R' := R1) (s1 2 (fun k => by unfold iF; omega)) (fun j => s1 (iB j) (fun k => by unfold iF iB; omega)))
  have M3 := Lib.hid ((s1 3 (fun k => by unfold iF; omega)).trans L3.out)
  have M4 := Lib.hid (L4.out.congr (R' := R1) (s1 4 (fun k => by unfold iF; omega)) (fun j => s1 (iP j) (fun k => by unfold iF iP; omega)))
  have M5 := Lib.hid ((s1 5 (fun k => by unfold iF; omega)).trans L5.out)
  clear b1 f1 k1 s1 FA L1 L2 L3 L4 L5 HCL
  obtain ⟨c0, c1, c2, c3, c4, c5, c6⟩ := HC1.out.seven
  go_wp2_with fail
  clear c0 c1 c2 c3 c4 c5 c6
  refine (markLLf_any _ m.bk _ _ lo hi a z R1 2 iB F1.out M2.out ixB_inj (fun k => by unfold iB; omega) (by omega) (by omega)).mono ?_
  rintro e w2 ⟨rfl, ⟨R2, f2, k2, s2⟩, b2⟩
  have z2 : w.heap.size + 1 ≤ w2.heap.size := by have := b2.size; omega
  have HC2 := Lib.hid (HC1.out.only b2 (by have := HZ.out; omega) (by omega))
  have B2 := Lib.hid (B1.out.trans b2)
  have F2 := Lib.hid f2
  have K2 := Lib.hid k2
  have N1 := Lib.hid (K1.out.congr (R' := R2) (s2 1 (fun k => by unfold iB; omega)) (fun j => s2 (iF j) (fun k => by unfold iF iB; omega)))
  have N3 := Lib.hid ((s2 3 (fun k => by unfold iB; omega)).trans M3.out)
  have N4 := Lib.hid (M4.out.congr (R' := R2) (s2 4 (fun k => by unfold iB; omega)) (fun j => s2 (iP j) (fun k => by unfold iB iP; omega)))
  have N5 := Lib.hid ((s2 5 (fun k => by unfold iB; omega)).trans M5.out)
  clear b2 f2 k2 s2 F1 K1 M2 M3 M4 M5 HC1 B1
  obtain ⟨c0, c1, c2, c3, c4, c5, c6⟩ := HC2.out.seven
  go_wp2_with fail
  clear c0 c1 c2 c3 c4 c5 c6
  refine (markCs2_any _ _ _ _ _ _ _ (F2.out.at_ N3.out) (by omega) (by omega)).mono ?_
  rintro e w3 ⟨rfl, o3, b3⟩
  have z3 : w.heap.size + 1 ≤ w3.heap.size := by have := b3.size; omega
  have b3' := F2.out.wide b3
  have HC3 := Lib.hid (HC2.out.only b3' (by have := HZ.out; omega) (by omega))
  have B3 := Lib.hid (B2.out.trans b3')
  obtain ⟨R3, hR3⟩ : ∃ R3, R3 = putS R2 3 ⟨52, 2, .slice AC m.cs.length cC, m.cs.length, vMC (1 + (sumL List.length m.fr : Int) + (sumL List.length m.bk : Int)) m.cs.length⟩ := ⟨_, rfl⟩
  have F3 := Lib.hid (F2.out.put (j := 3) (s := ⟨52, 2, .slice AC m.cs.length cC, m.cs.length, vMC (1 + (sumL List.length m.fr : Int) + (sumL List.length m.bk : Int)) m.cs.length⟩) b3 o3)
  have P3 : R3 3 = ⟨52, 2, .slice AC m.cs.length cC, m.cs.length, vMC (1 + (sumL List.length m.fr : Int) + (sumL List.length m.bk : Int)) m.cs.length⟩ := by rw [hR3, putS_same]
  have s3 : ∀ j, j ≠ 3 → R3 j = R2 j := fun j hj => by rw [hR3, putS_ne hj]
  rw [← hR3] at F3
  clear hR3
  have K3 := Lib.hid P3
  have P1 := Lib.hid (N1.out.congr (R' := R3) (s3 1 (by omega)) (fun j => s3 (iF j) (by unfold iF; omega)))
  have P2 := Lib.hid (K2.out.congr (R' := R3) (s3 2 (by omega)) (fun j => s3 (iB j) (by unfold iB; omega)))
  have P4 := Lib.hid (N4.out.congr (R' := R3) (s3 4 (by omega)) (fun j => s3 (iP j) (by unfold iP; omega)))
  have P5 := Lib.hid ((s3 5 (by omega)).trans N5.out)
  clear b3 b3' o3 P3 s3 F2 K2 N1 N3 N4 N5 HC2 B2
  obtain ⟨c0, c1, c2, c3, c4, c5, c6⟩ := HC3.out.seven
  go_wp2_with fail
  clear c0 c1 c2 c3 c4 c5 c6
  refine (markISf_any _ m.ls _ _ lo hi a z R3 4 iP F3.out P4.out ixP_inj (fun k => by unfold iP; omega) (by omega) (by omega)).mono ?_
  rintro e w4 ⟨rfl, ⟨R4, f4, k4, s4⟩, b4⟩
  have z4 : w.heap.size + 1 ≤ w4.heap.size := by have := b4.size; omega
  have HC4 := Lib.hid (HC3.out.only b4 (by have := HZ.out; omega) (by omega))
  have B4 := Lib.hid (B3.out.trans b4)
  have F4 := Lib.hid f4
  have K4 := Lib.hid k4
  have Q1 := Lib.hid (P1.out.congr (R' := R4) (s4 1 (by omega) (fun k => by unfold iP; omega)) (fun j => s4 (iF j) (by unfold iF; omega) (fun k => by unfold iF iP; omega)))
  have Q2 := Lib.hid (P2.out.congr (R' := R4) (s4 2 (by omega) (fun k => by unfold iP; omega)) (fun j => s4 (iB j) (by unfold iB; omega) (fun k => by unfold iB iP; omega)))
  have Q3 := Lib.hid ((s4 3 (by omega) (fun k => by unfold iP; omega)).trans K3.out)
  have Q5 := Lib.hid ((s4 5 (by omega) (fun k => by unfold iP; omega)).trans P5.out)
  clear b4 f4 k4 s4 F3 K3 P1 P2 P4 P5 HC3 B3
  obtain ⟨c0, c1, c2, c3, c4, c5, c6⟩ := HC4.out.seven
  go_wp2_with fail
  clear c0 c1 c2 c3 c4 c5 c6
  refine (markI_any _ _ _ _ _ _ _ (F4.out.at_ Q5.out) (by omega) (by omega)).mono ?_
  rintro e w5 ⟨rfl, o5, b5⟩
  have B5 := Lib.hid (B4.out.trans (F4.out.wide b5))
  have F5 := F4.out.put (j := 5) (s := spK (.slice AD m.dr.length cD) m.dr.length (1 + (sumL List.length m.fr : Int) + (sumL List.length m.bk : Int) + (m.cs.length : Int) * 2 + (m.ls.length : Int) * 5 + (sumL infL m.ls : Int))) b5 o5
  have HEND : Hid (OmMs w5 a z (.agg #[.int .i64 m.wd, .int .i64 m.rk, .slice AF m.fr.length cF, .slice AG m.bk.length cG, .slice AC m.cs.length cC, .slice AI m.ls.length cI, .slice AD m.dr.length cD]) m) := by
    obtain ⟨R5, hR5⟩ : ∃ R5, R5 = putS R4 5 (spK (.slice AD m.dr.length cD) m.dr.length (1 + (sumL List.length m.fr : Int) + (sumL List.length m.bk : Int) + (m.cs.length : Int) * 2 + (m.ls.length : Int) * 5 + (sumL infL m.ls : Int))) := ⟨_, rfl⟩
    rw [← hR5] at F5
    have s5 : ∀ j, j ≠ 5 → R5 j = R4 j := fun j hj => by rw [hR5, putS_ne hj]
    have e5 : R5 5 = spK (.slice AD m.dr.length cD) m.dr.length (1 + (sumL List.length m.fr : Int) + (sumL List.length m.bk : Int) + (m.cs.length : Int) * 2 + (m.ls.length : Int) * 5 + (sumL infL m.ls : Int)) := by rw [hR5, putS_same]
    have T1 := Q1.out.congr (R' := R5) (s5 1 (by omega)) (fun j => s5 (iF j) (by unfold iF; omega))
    have T2 := Q2.out.congr (R' := R5) (s5 2 (by omega)) (fun j => s5 (iB j) (by unfold iB; omega))
    have T3 := (s5 3 (by omega)).trans Q3.out
    have T4 := K4.out.congr (R' := R5) (s5 4 (by omega)) (fun j => s5 (iP j) (by unfold iP; omega))
    have v1 : (R5 1).v = .slice AF m.fr.length cF := by obtain ⟨xs, e, -⟩ := T1.hd; rw [e]
    have v2 : (R5 2).v = .slice AG m.bk.length cG := by obtain ⟨xs, e, -⟩ := T2.hd; rw [e]
    have v3 : (R5 3).v = .slice AC m.cs.length cC := by rw [T3]
    have v4 : (R5 4).v = .slice AI m.ls.length cI := by obtain ⟨xs, e, -⟩ := T4.hd; rw [e]
    have v5 : (R5 5).v = .slice AD m.dr.length cD := by rw [e5]
    exact ⟨lo, hi, R5, by rw [v1, v2, v3, v4, v5], F5, ⟨by rw [v1]; exact T1, by rw [v2]; exact T2, by rw [v3]; exact T3, by rw [v4]; exact T4, by rw [v5]; exact e5⟩⟩
  clear b5 o5 F5
  go_wp2
  go_ret
  exact ⟨ret_int (by have := HV.out; omega), HEND.out, B5.out⟩

set_option maxHeartbeats 4000000 in
set_option maxRecDepth 100000 in
theorem heldMs_any (v : Value) (m : Mc) (w : World) (a z : Nat) (ho : OmMs w a z v m) (h0 : 0 ≤ mkM m) (hn : mkM m ≤ 5242880) :
    Calls Try.prog 14 #[v, .int .i64 1] w fun e w' => e = .returned (.int .i64 (1 + mkM m)) ∧ Below w.heap.size w w' := by
  obtain ⟨lo, hi, R, e, hf, ⟨k1, k2, k3, k4, k5⟩⟩ := ho
  obtain ⟨AF, cF, hv1⟩ : ∃ A c, (R 1).v = .slice A m.fr.length c := by obtain ⟨xs, e, -⟩ := k1.hd; obtain ⟨A, c, h, -⟩ := (hf.at_ e).cells; exact ⟨A, c, h⟩
  obtain ⟨AG, cG, hv2⟩ : ∃ A c, (R 2).v = .slice A m.bk.length c := by obtain ⟨xs, e, -⟩ := k2.hd; obtain ⟨A, c, h, -⟩ := (hf.at_ e).cells; exact ⟨A, c, h⟩
  obtain ⟨AC, cC, hv3⟩ : ∃ A c, (R 3).v = .slice A m.cs.length c := by obtain ⟨A, c, h, -⟩ := (hf.at_ k3).cells; exact ⟨A, c, h⟩
  obtain ⟨AI, cI, hv4⟩ : ∃ A c, (R 4).v = .slice A m.ls.length c := by obtain ⟨xs, e, -⟩ := k4.hd; obtain ⟨A, c, h, -⟩ := (hf.at_ e).cells; exact ⟨A, c, h⟩
  obtain ⟨AD, cD, hv5⟩ : ∃ A c, (R 5).v = .slice A m.dr.length c := by obtain ⟨A, c, h, -⟩ := (hf.at_ k5).cells; exact ⟨A, c, h⟩
  rw [hv1] at k1 e
  rw [hv2] at k2 e
  rw [hv3] at k3 e
  rw [hv4] at k4 e
  rw [hv5] at k5 e
  subst e
  clear hv1 hv2 hv3 hv4 hv5
  have e1 : (sumL List.length m.fr : Int) + (sumL List.length m.bk : Int) + (m.cs.length : Int) * 2 + ((m.ls.length : Int) * 5 + (sumL infL m.ls : Int)) + (m.dr.length : Int) ≤ 5242880 := hn
  have HV := Lib.hid (show mkM m = (sumL List.length m.fr : Int) + (sumL List.length m.bk : Int) + (m.cs.length : Int) * 2 + ((m.ls.length : Int) * 5 + (sumL infL m.ls : Int)) + (m.dr.length : Int) from rfl)
  clear hn h0
  have hbw : Below w.heap.size w (w.alloc (.cells #[.int .i64 m.wd, .int .i64 m.rk, .slice AF m.fr.length cF, .slice AG m.bk.length cG, .slice AC m.cs.length cC, .slice AI m.ls.length cI, .slice AD m.dr.length cD] 32)) := (Below.refl _ _).alloc (Nat.le_refl _) _
  have FA := Lib.hid (hf.below (hbw.mono hf.z))
  have hcl : CellsAt (w.alloc (.cells #[.int .i64 m.wd, .int .i64 m.rk, .slice AF m.fr.length cF, .slice AG m.bk.length cG, .slice AC m.cs.length cC, .slice AI m.ls.length cI, .slice AD m.dr.length cD] 32)) w.heap.size 0 [.int .i64 m.wd, .int .i64 m.rk, .slice AF m.fr.length cF, .slice AG m.bk.length cG, .slice AC m.cs.length cC, .slice AI m.ls.length cI, .slice AD m.dr.length cD] := CellsAt.of_alloc
  have HCL := Lib.hid hcl
  have HB := Lib.hid hbw
  have K1 := Lib.hid k1
  have K2 := Lib.hid k2
  have K3 := Lib.hid k3
  have K4 := Lib.hid k4
  have K5 := Lib.hid k5
  clear hf k1 k2 k3 k4 k5 hbw hcl
  go_enter Try.func14, Try.ntmps14
  go_wp2_with fail
  refine (heldLLf_any _ m.fr _ _ lo hi a z R 1 iF FA.out K1.out (by omega) (by omega)).mono ?_
  rintro e w1 ⟨rfl, rfl⟩
  go_wp2_with fail
  refine (heldLLf_any _ m.bk _ _ lo hi a z R 2 iB FA.out K2.out (by omega) (by omega)).mono ?_
  rintro e w1 ⟨rfl, rfl⟩
  go_wp2_with fail
  refine (heldCs2_any _ _ _ _ _ _ (FA.out.at_ K3.out) (by omega) (by omega)).mono ?_
  rintro e w1 ⟨rfl, rfl⟩
  go_wp2_with fail
  refine (heldISf_any _ m.ls _ _ lo hi a z R 4 iP FA.out K4.out (by omega) (by omega)).mono ?_
  rintro e w1 ⟨rfl, rfl⟩
  go_wp2_with fail
  refine (heldI_any _ _ _ _ _ _ (FA.out.at_ K5.out) (by omega) (by omega)).mono ?_
  rintro e w1 ⟨rfl, rfl⟩
  go_wp2
  go_ret
  exact ⟨ret_int (by have := HV.out; omega), HB.out⟩

end Go.Proofs.Ytmcalioldphfeaa
