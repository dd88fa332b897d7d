/-
  Texts joined: McEq, OpenMc, McLaw0, McMark, Kept.
-/
import Derived.Test.YthhpjgdeehcgjaaMcTo
import Derived.Test.YthhpjgdeehcgjaaMc
import Derived.Test.YthhpjgdeehcgjaaMark
/-
  What the laws' szMachine and eqMachine do.
-/
namespace Go.Proofs.Ythhpjgdeehcgjaa
set_option linter.unusedVariables false
set_option linter.unusedSimpArgs false
open Go.RowKit

theorem szI_any (v : Value) (l : List Int) (left : Int) (w : World) (B : Nat) (hl : RdI w B v l) (h0 : 0 ≤ left) (h1 : left ≤ 1048576) :
    Calls Try.prog 24 #[v, .int .i64 left] w fun e w' => e = .returned (.int .i64 (szOfM left l.length)) ∧ w = w' := by
  obtain ⟨A, n, c, rfl, hln, hl, gl⟩ := hl
  rw [hl.out]
  clear gl
  by_cases h : (n : Int) ≤ left
  · have HS := Lib.hid (show szOfM left n = left - n by simp [szOfM, h])
    go_enter Try.func24, Try.ntmps24
    go_wp2
    go_ret
    exact ⟨ret_int HS.out.symm, rfl⟩
  · have HS := Lib.hid (show szOfM left n = -1 by simp [szOfM, h])
    go_enter Try.func24, Try.ntmps24
    go_wp2
    go_ret
    exact ⟨ret_int HS.out.symm, rfl⟩
theorem szCs_any (v : Value) (l : List Car) (left : Int) (w : World) (B : Nat) (hl : RdCs w B v l) (h0 : 0 ≤ left) (h1 : left ≤ 1048576) :
    Calls Try.prog 22 #[v, .int .i64 left] w fun e w' => e = .returned (.int .i64 (szOfM left l.length)) ∧ w = w' := by
  obtain ⟨A, n, c, rfl, hln, hl, gl⟩ := hl
  rw [hl.out]
  clear gl
  by_cases h : (n : Int) ≤ left
  · have HS := Lib.hid (show szOfM left n = left - n by simp [szOfM, h])
    go_enter Try.func22, Try.ntmps22
    go_wp2
    go_ret
    exact ⟨ret_int HS.out.symm, rfl⟩
  · have HS := Lib.hid (show szOfM left n = -1 by simp [szOfM, h])
    go_enter Try.func22, Try.ntmps22
    go_wp2
    go_ret
    exact ⟨ret_int HS.out.symm, rfl⟩
theorem szInfo_any (x : Inf) (s : Value) (left : Int) (w : World) (hs : RdI w w.heap.size s x.ps) (h0 : 0 ≤ left) (h1 : left ≤ 1048576) :
    Calls Try.prog 53 #[.agg #[.int .i64 x.k, .int .i64 x.y, .int .i64 x.b, .int .i64 x.p, .int .i64 x.d, s], .int .i64 left] w fun e w' => e = .returned (.int .i64 (szOfM left x.ps.length)) ∧ Below w.heap.size w w' := by
  obtain ⟨A0, n0, c0, rfl⟩ := RdI.shape' hs
  have HS := Lib.hid (hs.up' ((Below.refl _ _).alloc (Nat.le_refl _) (.cells #[.int .i64 x.k, .int .i64 x.y, .int .i64 x.b, .int .i64 x.p, .int .i64 x.d, .slice A0 n0 c0] 91)) (by simp))
  clear hs
  by_cases h : (x.ps.length : Int) ≤ left
  · have HZ := Lib.hid (szOfM_yes h)
    rw [HZ.out]
    go_enter Try.func53, Try.ntmps53
    go_wp2_with fail
    refine (szI_any _ x.ps _ _ _ HS.out h0 h1).mono ?_
    rintro e w1 ⟨rfl, rfl⟩
    rw [HZ.out]
    go_wp2
    go_ret
    exact ⟨rfl, (Below.refl _ _).alloc (Nat.le_refl _) _⟩
  · have HZ := Lib.hid (szOfM_no h)
    rw [HZ.out]
    go_enter Try.func53, Try.ntmps53
    go_wp2_with fail
    refine (szI_any _ x.ps _ _ _ HS.out h0 h1).mono ?_
    rintro e w1 ⟨rfl, rfl⟩
    rw [HZ.out]
    go_wp2
    go_ret
    exact ⟨rfl, (Below.refl _ _).alloc (Nat.le_refl _) _⟩

/- a size over a slice whose elements hold slices: szLL theorem · laws.szInt64SS function · List (List Int) the datum's type · RdLL its reading · szLLd its size · List.length an element's · obtain ⟨b, off, x, s, rfl, hbb, hlk, hc, hs⟩ := (RdLL.below HL.out hb).at_ hlt the element taken · have hcell := hc its cells · (szI_any _ x _ _ _ HS.out z0 z1) the element's contract -/
set_option maxHeartbeats 2000000 in
set_option maxRecDepth 100000 in
theorem szLL_any (v : Value) (l : List (List Int)) (left : Int) (w : World) (hl : RdLL w w.heap.size v l) (h0 : 0 ≤ left) (h1 : left ≤ 1048576) :
    Calls Try.prog 21 #[v, .int .i64 left] w fun e w' => e = .returned (.int .i64 (szLLd left l)) ∧ Below w.heap.size w w' := by
  obtain ⟨A, cp, rfl⟩ := hl.shape
  have hbig := RdN.le hl
  have HL := Lib.hid hl
  clear hl
  generalize hR : szLLd left l = R
  have HR := Lib.hid hR
  clear hR
  by_cases hle : (l.length : Int) ≤ left
  · have HD := Lib.hid (show R = szGo List.length (left - l.length) (l.drop 0) by rw [← HR.out]; simp [szLLd, hle])
    clear HR
    generalize hln : l.length = n at *
    have HLN := Lib.hid hln
    clear hln
    go_enter Try.func21, Try.ntmps21
    go_wp2
    go_loopw [1, 5] (fun t i wr => ∃ (k : Nat) (z : Int), k ≤ n ∧ i = .int .i64 k ∧ t = .int .i64 z ∧ 0 ≤ z ∧ z ≤ 1048576 ∧ Hid (R = szGo List.length z (l.drop k)) ∧ Below w.heap.size w wr) (fun _ i _ => n - (intOf i).toNat)
    case atStart => exact ⟨0, left - n, Nat.zero_le _, rfl, rfl, by omega, by omega, HD.out, Below.refl _ _⟩
    case round =>
      rename_i wr
      obtain ⟨k, z, hk, rfl, rfl, z0, z1, hd, hb⟩ := hrel
      clear hle h0 h1
      by_cases hlt : k < n
      · obtain ⟨b, off, x, s, rfl, hbb, hlk, hc, hs⟩ := (RdLL.below HL.out hb).at_ hlt
        have hcell := hc
        obtain ⟨A1, n1, c1, rfl⟩ := RdI.shape' hs
        have HS := Lib.hid (hs.more hb.size)
        have HB := Lib.hid hb
        by_cases hx : ((List.length x : Nat) : Int) ≤ z
        · have HN := Lib.hid (szGo_yes hd.out hlk hx)
          have HZ := Lib.hid (szOfM_yes hx)
          clear hb hlk hs hc hd
          go_wp2_with fail
          refine (szI_any _ x _ _ _ HS.out z0 z1).mono ?_
          rintro e w1 ⟨rfl, hb1⟩
          have HB1 : Hid (Below w.heap.size w w1) := by first | exact Lib.hid (HB.out.trans (hb1.mono HB.out.size)) | (subst hb1; exact HB)
          rw [HZ.out]
          clear hb1
          go_wp2
          exact ⟨⟨k + 1, z - (List.length x : Nat), by omega, by go_num, rfl, by omega, by omega, HN.out, HB1.out⟩, by simp [intOf]; omega⟩
        · have HN := Lib.hid (szGo_no hd.out hlk hx)
          have HZ := Lib.hid (szOfM_no hx)
          clear hb hlk hs hc hd
          go_wp2_with fail
          refine (szI_any _ x _ _ _ HS.out z0 z1).mono ?_
          rintro e w1 ⟨rfl, hb1⟩
          have HB1 : Hid (Below w.heap.size w w1) := by first | exact Lib.hid (HB.out.trans (hb1.mono HB.out.size)) | (subst hb1; exact HB)
          rw [HZ.out]
          clear hb1
          go_wp2
          go_ret
          exact ⟨ret_int HN.out.symm, HB1.out⟩
      · have HB := Lib.hid hb
        have HN := Lib.hid (show R = z by rw [hd.out, List.drop_of_length_le (by have := HLN.out; omega)]; rfl)
        clear hb hd
        go_wp2
        go_ret
        exact ⟨ret_int HN.out.symm, HB.out⟩
  · have HN := Lib.hid (show R = -1 by rw [← HR.out]; simp [szLLd, hle])
    clear HR
    generalize hln : l.length = n at *
    go_enter Try.func21, Try.ntmps21
    go_wp2
    go_ret
    exact ⟨ret_int HN.out.symm, Below.refl _ _⟩
/- a size over a slice whose elements hold slices: szIs theorem · laws.szInfoS function · List Inf the datum's type · RdIs its reading · szIsd its size · infL an element's · obtain ⟨b, off, x, s, rfl, hbb, hlk, hc, hs⟩ := (RdIs.below HL.out hb).at_ hlt the element taken · obtain ⟨e0, e1, e2, e3, e4, e5⟩ := hc.six its cells · ((szInfo_any x _ _ _ (HS.out.more (Nat.le_refl _)) z0 z1)) the element's contract -/
set_option maxHeartbeats 2000000 in
set_option maxRecDepth 100000 in
theorem szIs_any (v : Value) (l : List Inf) (left : Int) (w : World) (hl : RdIs w w.heap.size v l) (h0 : 0 ≤ left) (h1 : left ≤ 1048576) :
    Calls Try.prog 23 #[v, .int .i64 left] w fun e w' => e = .returned (.int .i64 (szIsd left l)) ∧ Below w.heap.size w w' := by
  obtain ⟨A, cp, rfl⟩ := hl.shape
  have hbig := RdN.le hl
  have HL := Lib.hid hl
  clear hl
  generalize hR : szIsd left l = R
  have HR := Lib.hid hR
  clear hR
  by_cases hle : (l.length : Int) ≤ left
  · have HD := Lib.hid (show R = szGo infL (left - l.length) (l.drop 0) by rw [← HR.out]; simp [szIsd, hle])
    clear HR
    generalize hln : l.length = n at *
    have HLN := Lib.hid hln
    clear hln
    go_enter Try.func23, Try.ntmps23
    go_wp2
    go_loopw [1, 5] (fun t i wr => ∃ (k : Nat) (z : Int), k ≤ n ∧ i = .int .i64 k ∧ t = .int .i64 z ∧ 0 ≤ z ∧ z ≤ 1048576 ∧ Hid (R = szGo infL z (l.drop k)) ∧ Below w.heap.size w wr) (fun _ i _ => n - (intOf i).toNat)
    case atStart => exact ⟨0, left - n, Nat.zero_le _, rfl, rfl, by omega, by omega, HD.out, Below.refl _ _⟩
    case round =>
      rename_i wr
      obtain ⟨k, z, hk, rfl, rfl, z0, z1, hd, hb⟩ := hrel
      clear hle h0 h1
      by_cases hlt : k < n
      · obtain ⟨b, off, x, s, rfl, hbb, hlk, hc, hs⟩ := (RdIs.below HL.out hb).at_ hlt
        obtain ⟨e0, e1, e2, e3, e4, e5⟩ := hc.six
        obtain ⟨A1, n1, c1, rfl⟩ := RdI.shape' hs
        have HS := Lib.hid (hs.more hb.size)
        have HB := Lib.hid hb
        by_cases hx : ((infL x : Nat) : Int) ≤ z
        · have HN := Lib.hid (szGo_yes hd.out hlk hx)
          have HZ := Lib.hid (szOfM_yes hx)
          clear hb hlk hs hc hd
          go_wp2_with fail
          refine ((szInfo_any x _ _ _ (HS.out.more (Nat.le_refl _)) z0 z1)).mono ?_
          rintro e w1 ⟨rfl, hb1⟩
          have HB1 : Hid (Below w.heap.size w w1) := by first | exact Lib.hid (HB.out.trans (hb1.mono HB.out.size)) | (subst hb1; exact HB)
          rw [HZ.out]
          clear hb1
          go_wp2
          exact ⟨⟨k + 1, z - (infL x : Nat), by omega, by go_num, rfl, by omega, by omega, HN.out, HB1.out⟩, by simp [intOf]; omega⟩
        · have HN := Lib.hid (szGo_no hd.out hlk hx)
          have HZ := Lib.hid (szOfM_no hx)
          clear hb hlk hs hc hd
          go_wp2_with fail
          refine ((szInfo_any x _ _ _ (HS.out.more (Nat.le_refl _)) z0 z1)).mono ?_
          rintro e w1 ⟨rfl, hb1⟩
          have HB1 : Hid (Below w.heap.size w w1) := by first | exact Lib.hid (HB.out.trans (hb1.mono HB.out.size)) | (subst hb1; exact HB)
          rw [HZ.out]
          clear hb1
          go_wp2
          go_ret
          exact ⟨ret_int HN.out.symm, HB1.out⟩
      · have HB := Lib.hid hb
        have HN := Lib.hid (show R = z by rw [hd.out, List.drop_of_length_le (by have := HLN.out; omega)]; rfl)
        clear hb hd
        go_wp2
        go_ret
        exact ⟨ret_int HN.out.symm, HB.out⟩
  · have HN := Lib.hid (show R = -1 by rw [← HR.out]; simp [szIsd, hle])
    clear HR
    generalize hln : l.length = n at *
    go_enter Try.func23, Try.ntmps23
    go_wp2
    go_ret
    exact ⟨ret_int HN.out.symm, Below.refl _ _⟩

/-- What szM is, step by step. -/
theorem szM_steps {m : Mc} {z1 z2 z3 z4 z5 : Int} (e1 : szLLd 1048576 m.fr = z1) (e2 : szLLd z1 m.bk = z2) (e3 : szOfM z2 m.cs.length = z3) (e4 : szIsd z3 m.ls = z4) (e5 : szOfM z4 m.dr.length = z5) :
    szM 1048576 m = if z1 < 0 then -1 else if z2 < 0 then -1 else if z3 < 0 then -1 else if z4 < 0 then -1 else z5 := by
  subst e1 e2 e3 e4 e5
  rfl
theorem szLLd_lo {left : Int} {l : List (List Int)} (h : 0 ≤ left) (h1 : left ≤ 1048576) : -1 ≤ szLLd left l ∧ szLLd left l ≤ 1048576 := by
  unfold szLLd; split
  · exact szGo_lo _ l _ (by omega) (by omega)
  · omega
theorem szIsd_lo {left : Int} {l : List Inf} (h : 0 ≤ left) (h1 : left ≤ 1048576) : -1 ≤ szIsd left l ∧ szIsd left l ≤ 1048576 := by
  unfold szIsd; split
  · exact szGo_lo _ l _ (by omega) (by omega)
  · omega

set_option maxHeartbeats 4000000 in
set_option maxRecDepth 100000 in
theorem szMachine_any (v : Value) (m : Mc) (w : World) (hl : RdM w w.heap.size v m) :
    Calls Try.prog 5 #[v, .int .i64 1048576] w fun e w' => e = .returned (.int .i64 (szM 1048576 m)) ∧ Below w.heap.size w w' := by
  obtain ⟨f, b, cs, ls, d, rfl, h1, h2, h3, h4, h5, h6⟩ := hl
  obtain ⟨AF, cF, rfl⟩ := RdN.shape h1
  obtain ⟨AG, cG, rfl⟩ := RdN.shape h2
  obtain ⟨AC, cC, rfl⟩ := RdS.lens h3
  obtain ⟨AI, cI, rfl⟩ := RdN.shape h4
  obtain ⟨AD, cD, rfl⟩ := RdI.len h5
  have HF := Lib.hid h1
  have HG := Lib.hid h2
  have HC := Lib.hid h3
  have HI := Lib.hid h4
  have HD := Lib.hid h5
  clear h1 h2 h3 h4 h5 h6
  obtain ⟨z1, e1⟩ : ∃ z, szLLd 1048576 m.fr = z := ⟨_, rfl⟩
  obtain ⟨z2, e2⟩ : ∃ z, szLLd z1 m.bk = z := ⟨_, rfl⟩
  obtain ⟨z3, e3⟩ : ∃ z, szOfM z2 m.cs.length = z := ⟨_, rfl⟩
  obtain ⟨z4, e4⟩ : ∃ z, szIsd z3 m.ls = z := ⟨_, rfl⟩
  obtain ⟨z5, e5⟩ : ∃ z, szOfM z4 m.dr.length = z := ⟨_, rfl⟩
  have HZ := Lib.hid (szM_steps e1 e2 e3 e4 e5)
  have E1 := Lib.hid e1
  have E2 := Lib.hid e2
  have E3 := Lib.hid e3
  have E4 := Lib.hid e4
  have E5 := Lib.hid e5
  clear e1 e2 e3 e4 e5
  have hcl : ∀ w1, Below (w.alloc (.cells #[.int .i64 m.wd, .int .i64 m.rk, .slice AF m.fr.length cF, .slice AG m.bk.length cG, .slice AC m.cs.length cC, .slice AI m.ls.length cI, .slice AD m.dr.length cD] 27)).heap.size (w.alloc (.cells #[.int .i64 m.wd, .int .i64 m.rk, .slice AF m.fr.length cF, .slice AG m.bk.length cG, .slice AC m.cs.length cC, .slice AI m.ls.length cI, .slice AD m.dr.length cD] 27)) w1 → CellsAt w1 w.heap.size 0 [.int .i64 m.wd, .int .i64 m.rk, .slice AF m.fr.length cF, .slice AG m.bk.length cG, .slice AC m.cs.length cC, .slice AI m.ls.length cI, .slice AD m.dr.length cD] := fun w1 hb => (CellsAt.of_alloc (us := [.int .i64 m.wd, .int .i64 m.rk, .slice AF m.fr.length cF, .slice AG m.bk.length cG, .slice AC m.cs.length cC, .slice AI m.ls.length cI, .slice AD m.dr.length cD])).below hb (by simp)
  have B0 := Lib.hid (Below.refl (w.alloc (.cells #[.int .i64 m.wd, .int .i64 m.rk, .slice AF m.fr.length cF, .slice AG m.bk.length cG, .slice AC m.cs.length cC, .slice AI m.ls.length cI, .slice AD m.dr.length cD] 27)).heap.size (w.alloc (.cells #[.int .i64 m.wd, .int .i64 m.rk, .slice AF m.fr.length cF, .slice AG m.bk.length cG, .slice AC m.cs.length cC, .slice AI m.ls.length cI, .slice AD m.dr.length cD] 27)))
  have Bw : Below w.heap.size w (w.alloc (.cells #[.int .i64 m.wd, .int .i64 m.rk, .slice AF m.fr.length cF, .slice AG m.bk.length cG, .slice AC m.cs.length cC, .slice AI m.ls.length cI, .slice AD m.dr.length cD] 27)) := (Below.refl _ _).alloc (Nat.le_refl _) _
  have BW := Lib.hid Bw
  clear Bw
  go_enter Try.func5, Try.ntmps5
  go_wp2_with fail
  refine (szLL_any _ m.fr _ _ (RdLL.up HF.out (BW.out.trans (B0.out.mono (by simp))) (BW.out.trans (B0.out.mono (by simp))).size) (by omega) (by omega)).mono ?_
  rintro e w1 ⟨rfl, hb⟩
  rw [E1.out]
  have B1 := Lib.hid (B0.out.trans (hb.mono B0.out.size))
  clear hb
  obtain ⟨l1, u1⟩ : -1 ≤ z1 ∧ z1 ≤ 1048576 := by rw [← E1.out]; exact szLLd_lo (by omega) (by omega)
  by_cases p1 : z1 < 0
  · have hq := Lib.hid (show szM 1048576 m = -1 by rw [HZ.out, if_pos (show z1 < 0 by omega)])
    go_wp2
    go_ret
    exact ⟨ret_int hq.out.symm, (BW.out.trans (B1.out.mono (by simp)))⟩
  obtain ⟨x0, x1, x2, x3, x4, x5, x6⟩ := (hcl _ B1.out).seven
  go_wp2_with fail
  clear x0 x1 x2 x3 x4 x5 x6
  refine (szLL_any _ m.bk _ _ (RdLL.up HG.out (BW.out.trans (B1.out.mono (by simp))) (BW.out.trans (B1.out.mono (by simp))).size) (by omega) (by omega)).mono ?_
  rintro e w2 ⟨rfl, hb⟩
  rw [E2.out]
  have B2 := Lib.hid (B1.out.trans (hb.mono B1.out.size))
  clear hb
  obtain ⟨l2, u2⟩ : -1 ≤ z2 ∧ z2 ≤ 1048576 := by rw [← E2.out]; exact szLLd_lo (by omega) (by omega)
  by_cases p2 : z2 < 0
  · have hq := Lib.hid (show szM 1048576 m = -1 by rw [HZ.out, if_neg (show ¬ z1 < 0 by omega), if_pos (show z2 < 0 by omega)])
    go_wp2
    go_ret
    exact ⟨ret_int hq.out.symm, (BW.out.trans (B2.out.mono (by simp)))⟩
  obtain ⟨x0, x1, x2, x3, x4, x5, x6⟩ := (hcl _ B2.out).seven
  go_wp2_with fail
  clear x0 x1 x2 x3 x4 x5 x6
  refine (szCs_any _ m.cs _ _ _ (RdCs.up HC.out (BW.out.trans (B2.out.mono (by simp))) (BW.out.trans (B2.out.mono (by simp))).size) (by omega) (by omega)).mono ?_
  rintro e w3 ⟨rfl, rfl⟩
  rw [E3.out]
  have B3 := B2
  obtain ⟨l3, u3⟩ : -1 ≤ z3 ∧ z3 ≤ 1048576 := by rw [← E3.out]; exact szOfM_lo (by omega) (by omega)
  by_cases p3 : z3 < 0
  · have hq := Lib.hid (show szM 1048576 m = -1 by rw [HZ.out, if_neg (show ¬ z1 < 0 by omega), if_neg (show ¬ z2 < 0 by omega), if_pos (show z3 < 0 by omega)])
    go_wp2
    go_ret
    exact ⟨ret_int hq.out.symm, (BW.out.trans (B3.out.mono (by simp)))⟩
  obtain ⟨x0, x1, x2, x3, x4, x5, x6⟩ := (hcl _ B3.out).seven
  go_wp2_with fail
  clear x0 x1 x2 x3 x4 x5 x6
  refine (szIs_any _ m.ls _ _ (RdIs.up HI.out (BW.out.trans (B3.out.mono (by simp))) (BW.out.trans (B3.out.mono (by simp))).size) (by omega) (by omega)).mono ?_
  rintro e w4 ⟨rfl, hb⟩
  rw [E4.out]
  have B4 := Lib.hid (B3.out.trans (hb.mono B3.out.size))
  clear hb
  obtain ⟨l4, u4⟩ : -1 ≤ z4 ∧ z4 ≤ 1048576 := by rw [← E4.out]; exact szIsd_lo (by omega) (by omega)
  by_cases p4 : z4 < 0
  · have hq := Lib.hid (show szM 1048576 m = -1 by rw [HZ.out, if_neg (show ¬ z1 < 0 by omega), if_neg (show ¬ z2 < 0 by omega), if_neg (show ¬ z3 < 0 by omega), if_pos (show z4 < 0 by omega)])
    go_wp2
    go_ret
    exact ⟨ret_int hq.out.symm, (BW.out.trans (B4.out.mono (by simp)))⟩
  obtain ⟨x0, x1, x2, x3, x4, x5, x6⟩ := (hcl _ B4.out).seven
  go_wp2_with fail
  clear x0 x1 x2 x3 x4 x5 x6
  refine (szI_any _ m.dr _ _ _ (RdI.up' HD.out (BW.out.trans (B4.out.mono (by simp))) (BW.out.trans (B4.out.mono (by simp))).size) (by omega) (by omega)).mono ?_
  rintro e w5 ⟨rfl, rfl⟩
  rw [E5.out]
  have B5 := B4
  obtain ⟨l5, u5⟩ : -1 ≤ z5 ∧ z5 ≤ 1048576 := by rw [← E5.out]; exact szOfM_lo (by omega) (by omega)
  by_cases p5 : z5 < 0
  · have hq := Lib.hid (show szM 1048576 m = -1 by rw [HZ.out, if_neg (show ¬ z1 < 0 by omega), if_neg (show ¬ z2 < 0 by omega), if_neg (show ¬ z3 < 0 by omega), if_neg (show ¬ z4 < 0 by omega)]; omega)
    go_wp2
    go_ret
    exact ⟨ret_int hq.out.symm, (BW.out.trans (B5.out.mono (by simp)))⟩
  have hq := Lib.hid (show szM 1048576 m = z5 by rw [HZ.out, if_neg (show ¬ z1 < 0 by omega), if_neg (show ¬ z2 < 0 by omega), if_neg (show ¬ z3 < 0 by omega), if_neg (show ¬ z4 < 0 by omega)])
  go_wp2
  go_ret
  exact ⟨ret_int hq.out.symm, (BW.out.trans (B5.out.mono (by simp)))⟩

/-! ### The laws compare machines with machines that are alike -/
theorem eqI_same (v u : Value) (l : List Int) (w : World) (hl : RdI w w.heap.size v l) (hm : RdI w w.heap.size u l) :
    Calls Try.prog 43 #[v, u] w fun x w' => x = .returned (.bool true) ∧ Below w.heap.size w w' :=
  (eqInt64S_any v u l l w _ hl hm (Nat.le_refl _)).mono fun e w' ⟨h1, h2⟩ => ⟨by rw [h1]; simp, h2⟩
theorem eqCarrier_same (c : Car) (w : World) : Calls Try.prog 84 #[.agg #[.bool c.i, .int .i64 c.p], .agg #[.bool c.i, .int .i64 c.p]] w fun x w' => x = .returned (.bool true) ∧ Below w.heap.size w w' := by
  obtain ⟨b, p⟩ := c
  cases b
  all_goals
    go_enter Try.func84, Try.ntmps84
    go_wp2
    go_ret
    exact ⟨rfl, ((Below.refl _ _).alloc (Nat.le_refl _) _).alloc (by simp) _⟩
set_option maxHeartbeats 1000000 in
theorem eqInfo_same (x : Inf) (s t : Value) (w : World) (hs : RdI w w.heap.size s x.ps) (ht : RdI w w.heap.size t x.ps) :
    Calls Try.prog 85 #[.agg #[.int .i64 x.k, .int .i64 x.y, .int .i64 x.b, .int .i64 x.p, .int .i64 x.d, s], .agg #[.int .i64 x.k, .int .i64 x.y, .int .i64 x.b, .int .i64 x.p, .int .i64 x.d, t]] w fun e w' => e = .returned (.bool true) ∧ Below w.heap.size w w' := by
  obtain ⟨A0, n0, c0, rfl⟩ := RdI.shape' hs
  obtain ⟨A1, n1, c1, rfl⟩ := RdI.shape' ht
  have HS := Lib.hid hs
  have HT := Lib.hid ht
  clear hs ht
  go_enter Try.func85, Try.ntmps85
  go_wp2_with fail
  refine (eqI_same _ _ x.ps _ (HS.out.up' (((Below.refl _ _).alloc (Nat.le_refl _) _).alloc (by simp) _) (by simp; omega)) (HT.out.up' (((Below.refl _ _).alloc (Nat.le_refl _) _).alloc (by simp) _) (by simp; omega))).mono ?_
  rintro e w1 ⟨rfl, hb⟩
  have HB := Lib.hid ((((Below.refl _ _).alloc (Nat.le_refl _) _).alloc (by simp) _).trans (hb.mono (by simp; omega)))
  clear hb
  go_wp2
  go_ret
  exact ⟨rfl, HB.out⟩

/- two slices whose elements hold slices, alike: eqLL theorem · laws.eqInt64SS function · List (List Int) the datum's type · RdLL its reading · obtain ⟨b, off, x, s, rfl, hbb, hlk, hc, hs⟩ := (RdLL.below HL.out hb).at_ hlt, obtain ⟨b', off', x', t, rfl, hbb', hlk', hc', ht⟩ := (RdLL.below HM.out hb).at_ hlt the elements taken · have e0 := fun X => wgrow_cell (x := X) hc; have f0 := fun X => wgrow_cell (x := X) hc' their cells in grown worlds · laws.eqInt64S the element's comparison · (eqI_same _ _ x _ (HS _).out (HT _).out) its contract -/
set_option maxHeartbeats 2000000 in
set_option maxRecDepth 100000 in
theorem eqLL_same (v u : Value) (l : List (List Int)) (w : World) (hl : RdLL w w.heap.size v l) (hm : RdLL w w.heap.size u l) :
    Calls Try.prog 40 #[v, u] w fun x w' => x = .returned (.bool true) ∧ Below w.heap.size w w' := by
  obtain ⟨A, cp, rfl⟩ := RdN.shape hl
  obtain ⟨A', cp', rfl⟩ := RdN.shape hm
  have hbig := RdN.le hl
  have HL := Lib.hid hl
  have HM := Lib.hid hm
  clear hl hm
  generalize hln : l.length = n at *
  go_enter Try.func40, Try.ntmps40
  go_wp2
  go_loopw [5] (fun i wr => ∃ k : Nat, k ≤ n ∧ i = .int .i64 k ∧ Below w.heap.size w wr) (fun i _ => n - (intOf i).toNat)
  case atStart => exact ⟨0, Nat.zero_le _, rfl, Below.refl _ _⟩
  case round =>
    rename_i wr
    obtain ⟨k, hk, rfl, hb⟩ := hrel
    by_cases hlt : k < n
    · obtain ⟨b, off, x, s, rfl, hbb, hlk, hc, hs⟩ := (RdLL.below HL.out hb).at_ hlt
      obtain ⟨b', off', x', t, rfl, hbb', hlk', hc', ht⟩ := (RdLL.below HM.out hb).at_ hlt
      obtain rfl : x = x' := by rw [hlk] at hlk'; injection hlk'
      obtain ⟨A1, n1, c1, rfl⟩ := RdI.shape' hs
      obtain ⟨A2, n2, c2, rfl⟩ := RdI.shape' ht
      have hs1 := hs.more hb.size
      have ht1 := ht.more hb.size
      have HS := fun X => Lib.hid (hs1.up' (below_wgrow wr X) (below_wgrow wr X).size)
      have HT := fun X => Lib.hid (ht1.up' (below_wgrow wr X) (below_wgrow wr X).size)
      have e0 := fun X => wgrow_cell (x := X) hc; have f0 := fun X => wgrow_cell (x := X) hc'
      have HB := Lib.hid hb
      clear hc hc' hlk hlk' hb hs ht hs1 ht1
      go_wp2
      refine wp_region_grow (by kernel_rfl) (by kernel_rfl) ?_
      repeat (go_big_quiet_step ((go_at_call 43; exact calls_grow (eqI_same _ _ x _ (HS _).out (HT _).out))))
      refine wpQuiet_nil ?_
      intro w1 hb1
      have HB1 := HB.out.trans (hb1.mono HB.out.size)
      go_wp2
      exact ⟨⟨k + 1, by omega, by go_num, HB1⟩, by simp [intOf]; omega⟩
    · go_wp2
      go_ret
      exact ⟨rfl, hb⟩
/- two slices whose elements hold slices, alike: eqIs theorem · laws.eqInfoS function · List Inf the datum's type · RdIs its reading · obtain ⟨b, off, x, s, rfl, hbb, hlk, hc, hs⟩ := (RdIs.below HL.out hb).at_ hlt, obtain ⟨b', off', x', t, rfl, hbb', hlk', hc', ht⟩ := (RdIs.below HM.out hb).at_ hlt the elements taken · obtain ⟨e0, e1, e2, e3, e4, e5⟩ := hc.grow6; obtain ⟨f0, f1, f2, f3, f4, f5⟩ := hc'.grow6 their cells in grown worlds · laws.eqInfo the element's comparison · (eqInfo_same x _ _ _ (HS _).out (HT _).out) its contract -/
set_option maxHeartbeats 2000000 in
set_option maxRecDepth 100000 in
theorem eqIs_same (v u : Value) (l : List Inf) (w : World) (hl : RdIs w w.heap.size v l) (hm : RdIs w w.heap.size u l) :
    Calls Try.prog 42 #[v, u] w fun x w' => x = .returned (.bool true) ∧ Below w.heap.size w w' := by
  obtain ⟨A, cp, rfl⟩ := RdN.shape hl
  obtain ⟨A', cp', rfl⟩ := RdN.shape hm
  have hbig := RdN.le hl
  have HL := Lib.hid hl
  have HM := Lib.hid hm
  clear hl hm
  generalize hln : l.length = n at *
  go_enter Try.func42, Try.ntmps42
  go_wp2
  go_loopw [5] (fun i wr => ∃ k : Nat, k ≤ n ∧ i = .int .i64 k ∧ Below w.heap.size w wr) (fun i _ => n - (intOf i).toNat)
  case atStart => exact ⟨0, Nat.zero_le _, rfl, Below.refl _ _⟩
  case round =>
    rename_i wr
    obtain ⟨k, hk, rfl, hb⟩ := hrel
    by_cases hlt : k < n
    · obtain ⟨b, off, x, s, rfl, hbb, hlk, hc, hs⟩ := (RdIs.below HL.out hb).at_ hlt
      obtain ⟨b', off', x', t, rfl, hbb', hlk', hc', ht⟩ := (RdIs.below HM.out hb).at_ hlt
      obtain rfl : x = x' := by rw [hlk] at hlk'; injection hlk'
      obtain ⟨A1, n1, c1, rfl⟩ := RdI.shape' hs
      obtain ⟨A2, n2, c2, rfl⟩ := RdI.shape' ht
      have hs1 := hs.more hb.size
      have ht1 := ht.more hb.size
      have HS := fun X => Lib.hid (hs1.up' (below_wgrow wr X) (below_wgrow wr X).size)
      have HT := fun X => Lib.hid (ht1.up' (below_wgrow wr X) (below_wgrow wr X).size)
      obtain ⟨e0, e1, e2, e3, e4, e5⟩ := hc.grow6; obtain ⟨f0, f1, f2, f3, f4, f5⟩ := hc'.grow6
      have HB := Lib.hid hb
      clear hc hc' hlk hlk' hb hs ht hs1 ht1
      go_wp2
      refine wp_region_grow (by kernel_rfl) (by kernel_rfl) ?_
      repeat (go_big_quiet_step ((go_at_call 85; exact calls_grow (eqInfo_same x _ _ _ (HS _).out (HT _).out))))
      refine wpQuiet_nil ?_
      intro w1 hb1
      have HB1 := HB.out.trans (hb1.mono HB.out.size)
      go_wp2
      exact ⟨⟨k + 1, by omega, by go_num, HB1⟩, by simp [intOf]; omega⟩
    · go_wp2
      go_ret
      exact ⟨rfl, hb⟩

set_option maxHeartbeats 1000000 in
theorem eqCs_same (v u : Value) (l : List Car) (w : World) (hl : RdCs w w.heap.size v l) (hm : RdCs w w.heap.size u l) :
    Calls Try.prog 41 #[v, u] w fun x w' => x = .returned (.bool true) ∧ Below w.heap.size w w' := by
  obtain ⟨A, n, c, rfl, hln, hl, gl⟩ := hl
  obtain ⟨A', n', c', rfl, hmn, hm, gm⟩ := hm
  obtain rfl : n' = n := hm.out.symm.trans hl.out
  go_enter Try.func41, Try.ntmps41
  go_wp2
  go_loopw [5] (fun i wr => ∃ k : Nat, k ≤ n' ∧ i = .int .i64 k ∧ Below w.heap.size w wr) (fun i _ => n' - (intOf i).toNat)
  case atStart => exact ⟨0, Nat.zero_le _, rfl, Below.refl _ _⟩
  case round =>
    rename_i wr
    obtain ⟨k, hk, rfl, hb⟩ := hrel
    by_cases hlt : k < n'
    · obtain ⟨b, off, x, rfl, hbb, hlk, hc⟩ := gl k hlt
      obtain ⟨b', off', y, rfl, hbb', hmk, hc'⟩ := gm k hlt
      obtain rfl : x = y := by rw [hlk] at hmk; injection hmk
      obtain ⟨e0, e1⟩ := (hc.below hb hbb).grow2
      obtain ⟨f0, f1⟩ := (hc'.below hb hbb').grow2
      have HB := Lib.hid hb
      clear hc hc' hlk hmk hb gl gm
      go_wp2
      refine wp_region_grow (by kernel_rfl) (by kernel_rfl) ?_
      repeat (go_big_quiet_step ((go_at_call 84; exact calls_grow (eqCarrier_same _ _))))
      refine wpQuiet_nil ?_
      intro w1 hb1
      have HB1 := HB.out.trans (hb1.mono HB.out.size)
      go_wp2
      exact ⟨⟨k + 1, by omega, by go_num, HB1⟩, by simp [intOf]; omega⟩
    · go_wp2
      go_ret
      exact ⟨rfl, hb⟩

set_option maxHeartbeats 4000000 in
set_option maxRecDepth 100000 in
theorem eqMachine_same (v u : Value) (m : Mc) (w : World) (hl : RdM w w.heap.size v m) (hm : RdM w w.heap.size u m) :
    Calls Try.prog 11 #[v, u] w fun x w' => x = .returned (.bool true) ∧ Below w.heap.size w w' := by
  obtain ⟨f, b, cs, ls, d, rfl, h1, h2, h3, h4, h5, h6⟩ := hl
  obtain ⟨AF, cF, rfl⟩ := RdN.shape h1
  obtain ⟨AG, cG, rfl⟩ := RdN.shape h2
  obtain ⟨AC, cC, rfl⟩ := RdS.lens h3
  obtain ⟨AI, cI, rfl⟩ := RdN.shape h4
  obtain ⟨AD, cD, rfl⟩ := RdI.len h5
  have HF := Lib.hid h1
  have HG := Lib.hid h2
  have HC := Lib.hid h3
  have HI := Lib.hid h4
  have HD := Lib.hid h5
  clear h1 h2 h3 h4 h5 h6
  obtain ⟨f, b, cs, ls, d, rfl, h1, h2, h3, h4, h5, h6⟩ := hm
  obtain ⟨BF, dF, rfl⟩ := RdN.shape h1
  obtain ⟨BG, dG, rfl⟩ := RdN.shape h2
  obtain ⟨BC, dC, rfl⟩ := RdS.lens h3
  obtain ⟨BI, dI, rfl⟩ := RdN.shape h4
  obtain ⟨BD, dD, rfl⟩ := RdI.len h5
  have JF := Lib.hid h1
  have JG := Lib.hid h2
  have JC := Lib.hid h3
  have JI := Lib.hid h4
  have JD := Lib.hid h5
  clear h1 h2 h3 h4 h5 h6
  have hcl : ∀ w1, Below ((w.alloc (.cells #[.int .i64 m.wd, .int .i64 m.rk, .slice AF m.fr.length cF, .slice AG m.bk.length cG, .slice AC m.cs.length cC, .slice AI m.ls.length cI, .slice AD m.dr.length cD] 39)).alloc (.cells #[.int .i64 m.wd, .int .i64 m.rk, .slice BF m.fr.length dF, .slice BG m.bk.length dG, .slice BC m.cs.length dC, .slice BI m.ls.length dI, .slice BD m.dr.length dD] 39)).heap.size ((w.alloc (.cells #[.int .i64 m.wd, .int .i64 m.rk, .slice AF m.fr.length cF, .slice AG m.bk.length cG, .slice AC m.cs.length cC, .slice AI m.ls.length cI, .slice AD m.dr.length cD] 39)).alloc (.cells #[.int .i64 m.wd, .int .i64 m.rk, .slice BF m.fr.length dF, .slice BG m.bk.length dG, .slice BC m.cs.length dC, .slice BI m.ls.length dI, .slice BD m.dr.length dD] 39)) w1 → CellsAt w1 w.heap.size 0 [.int .i64 m.wd, .int .i64 m.rk, .slice AF m.fr.length cF, .slice AG m.bk.length cG, .slice AC m.cs.length cC, .slice AI m.ls.length cI, .slice AD m.dr.length cD] := fun w1 hb => ((CellsAt.of_alloc (us := [.int .i64 m.wd, .int .i64 m.rk, .slice AF m.fr.length cF, .slice AG m.bk.length cG, .slice AC m.cs.length cC, .slice AI m.ls.length cI, .slice AD m.dr.length cD])).alloc (by simp) _).below hb (by simp; omega)
  have hcm : ∀ w1, Below ((w.alloc (.cells #[.int .i64 m.wd, .int .i64 m.rk, .slice AF m.fr.length cF, .slice AG m.bk.length cG, .slice AC m.cs.length cC, .slice AI m.ls.length cI, .slice AD m.dr.length cD] 39)).alloc (.cells #[.int .i64 m.wd, .int .i64 m.rk, .slice BF m.fr.length dF, .slice BG m.bk.length dG, .slice BC m.cs.length dC, .slice BI m.ls.length dI, .slice BD m.dr.length dD] 39)).heap.size ((w.alloc (.cells #[.int .i64 m.wd, .int .i64 m.rk, .slice AF m.fr.length cF, .slice AG m.bk.length cG, .slice AC m.cs.length cC, .slice AI m.ls.length cI, .slice AD m.dr.length cD] 39)).alloc (.cells #[.int .i64 m.wd, .int .i64 m.rk, .slice BF m.fr.length dF, .slice BG m.bk.length dG, .slice BC m.cs.length dC, .slice BI m.ls.length dI, .slice BD m.dr.length dD] 39)) w1 → CellsAt w1 (w.heap.size + 1) 0 [.int .i64 m.wd, .int .i64 m.rk, .slice BF m.fr.length dF, .slice BG m.bk.length dG, .slice BC m.cs.length dC, .slice BI m.ls.length dI, .slice BD m.dr.length dD] := fun w1 hb => by
    have h := CellsAt.of_alloc (w := (w.alloc (.cells #[.int .i64 m.wd, .int .i64 m.rk, .slice AF m.fr.length cF, .slice AG m.bk.length cG, .slice AC m.cs.length cC, .slice AI m.ls.length cI, .slice AD m.dr.length cD] 39))) (us := [.int .i64 m.wd, .int .i64 m.rk, .slice BF m.fr.length dF, .slice BG m.bk.length dG, .slice BC m.cs.length dC, .slice BI m.ls.length dI, .slice BD m.dr.length dD]) (t := 39)
    simp only [World.size_alloc] at h
    exact h.below hb (by simp)
  have B0 := Lib.hid (Below.refl ((w.alloc (.cells #[.int .i64 m.wd, .int .i64 m.rk, .slice AF m.fr.length cF, .slice AG m.bk.length cG, .slice AC m.cs.length cC, .slice AI m.ls.length cI, .slice AD m.dr.length cD] 39)).alloc (.cells #[.int .i64 m.wd, .int .i64 m.rk, .slice BF m.fr.length dF, .slice BG m.bk.length dG, .slice BC m.cs.length dC, .slice BI m.ls.length dI, .slice BD m.dr.length dD] 39)).heap.size ((w.alloc (.cells #[.int .i64 m.wd, .int .i64 m.rk, .slice AF m.fr.length cF, .slice AG m.bk.length cG, .slice AC m.cs.length cC, .slice AI m.ls.length cI, .slice AD m.dr.length cD] 39)).alloc (.cells #[.int .i64 m.wd, .int .i64 m.rk, .slice BF m.fr.length dF, .slice BG m.bk.length dG, .slice BC m.cs.length dC, .slice BI m.ls.length dI, .slice BD m.dr.length dD] 39)))
  have Bw : Below w.heap.size w ((w.alloc (.cells #[.int .i64 m.wd, .int .i64 m.rk, .slice AF m.fr.length cF, .slice AG m.bk.length cG, .slice AC m.cs.length cC, .slice AI m.ls.length cI, .slice AD m.dr.length cD] 39)).alloc (.cells #[.int .i64 m.wd, .int .i64 m.rk, .slice BF m.fr.length dF, .slice BG m.bk.length dG, .slice BC m.cs.length dC, .slice BI m.ls.length dI, .slice BD m.dr.length dD] 39)) := ((Below.refl _ _).alloc (Nat.le_refl _) _).alloc (by simp) _
  have BW := Lib.hid Bw
  clear Bw
  go_enter Try.func11, Try.ntmps11
  go_wp2_with fail
  refine (eqLL_same _ _ m.fr _ (RdLL.up HF.out (BW.out.trans (B0.out.mono (by simp; try omega))) (BW.out.trans (B0.out.mono (by simp; try omega))).size) (RdLL.up JF.out (BW.out.trans (B0.out.mono (by simp; try omega))) (BW.out.trans (B0.out.mono (by simp; try omega))).size)).mono ?_
  rintro e w1 ⟨rfl, hb⟩
  have B1 := Lib.hid (B0.out.trans (hb.mono B0.out.size))
  clear hb
  obtain ⟨x0, x1, x2, x3, x4, x5, x6⟩ := (hcl _ B1.out).seven
  obtain ⟨y0, y1, y2, y3, y4, y5, y6⟩ := (hcm _ B1.out).seven
  go_wp2_with fail
  clear x0 x1 x2 x3 x4 x5 x6 y0 y1 y2 y3 y4 y5 y6
  refine (eqLL_same _ _ m.bk _ (RdLL.up HG.out (BW.out.trans (B1.out.mono (by simp; try omega))) (BW.out.trans (B1.out.mono (by simp; try omega))).size) (RdLL.up JG.out (BW.out.trans (B1.out.mono (by simp; try omega))) (BW.out.trans (B1.out.mono (by simp; try omega))).size)).mono ?_
  rintro e w2 ⟨rfl, hb⟩
  have B2 := Lib.hid (B1.out.trans (hb.mono B1.out.size))
  clear hb
  obtain ⟨x0, x1, x2, x3, x4, x5, x6⟩ := (hcl _ B2.out).seven
  obtain ⟨y0, y1, y2, y3, y4, y5, y6⟩ := (hcm _ B2.out).seven
  go_wp2_with fail
  clear x0 x1 x2 x3 x4 x5 x6 y0 y1 y2 y3 y4 y5 y6
  refine (eqCs_same _ _ m.cs _ (RdCs.up HC.out (BW.out.trans (B2.out.mono (by simp; try omega))) (BW.out.trans (B2.out.mono (by simp; try omega))).size) (RdCs.up JC.out (BW.out.trans (B2.out.mono (by simp; try omega))) (BW.out.trans (B2.out.mono (by simp; try omega))).size)).mono ?_
  rintro e w3 ⟨rfl, hb⟩
  have B3 := Lib.hid (B2.out.trans (hb.mono B2.out.size))
  clear hb
  obtain ⟨x0, x1, x2, x3, x4, x5, x6⟩ := (hcl _ B3.out).seven
  obtain ⟨y0, y1, y2, y3, y4, y5, y6⟩ := (hcm _ B3.out).seven
  go_wp2_with fail
  clear x0 x1 x2 x3 x4 x5 x6 y0 y1 y2 y3 y4 y5 y6
  refine (eqIs_same _ _ m.ls _ (RdIs.up HI.out (BW.out.trans (B3.out.mono (by simp; try omega))) (BW.out.trans (B3.out.mono (by simp; try omega))).size) (RdIs.up JI.out (BW.out.trans (B3.out.mono (by simp; try omega))) (BW.out.trans (B3.out.mono (by simp; try omega))).size)).mono ?_
  rintro e w4 ⟨rfl, hb⟩
  have B4 := Lib.hid (B3.out.trans (hb.mono B3.out.size))
  clear hb
  obtain ⟨x0, x1, x2, x3, x4, x5, x6⟩ := (hcl _ B4.out).seven
  obtain ⟨y0, y1, y2, y3, y4, y5, y6⟩ := (hcm _ B4.out).seven
  go_wp2_with fail
  clear x0 x1 x2 x3 x4 x5 x6 y0 y1 y2 y3 y4 y5 y6
  refine (eqI_same _ _ m.dr _ (RdI.up' HD.out (BW.out.trans (B4.out.mono (by simp; try omega))) (BW.out.trans (B4.out.mono (by simp; try omega))).size) (RdI.up' JD.out (BW.out.trans (B4.out.mono (by simp; try omega))) (BW.out.trans (B4.out.mono (by simp; try omega))).size)).mono ?_
  rintro e w5 ⟨rfl, hb⟩
  have B5 := Lib.hid (B4.out.trans (hb.mono B4.out.size))
  clear hb
  go_wp2
  go_ret
  exact ⟨rfl, (BW.out.trans (B5.out.mono (by simp; try omega)))⟩

end Go.Proofs.Ythhpjgdeehcgjaa

/-
  A machine that is an argument.
-/
namespace Go.Proofs.Ythhpjgdeehcgjaa
set_option linter.unusedVariables false
set_option linter.unusedSimpArgs false
open Go.ChangeShapes Go.WideShapes Go.ChangeAt Go.RowKit Go.Deep

section
variable {H : Type} {enc : TypeId × Value → H} {W : World}
theorem opens_int64 : Opens enc Try.prog W 2 (fun v x => v = .int .i64 x ∧ Fit x) := opens_int Try.underlying2
theorem opens_int64S : Opens enc Try.prog W 25 (fun v l => RdI W W.heap.size v l ∧ ∀ x ∈ l, Fit x) := opens_ints Try.underlying25 Try.underlying2 (by kernel_rfl)
theorem opens_int64Sc : Opens enc Try.prog W 25 (fun v l => RdI W W.heap.size v l ∧ CapOk v) := fun n v y h => by
  obtain ⟨l, hl, _⟩ := opens_int64S n v y h
  refine ⟨l, hl, ?_⟩
  rcases open_ints Try.underlying25 Try.underlying2 (by kernel_rfl) h with ⟨hcs, _⟩ | ⟨a, n', c, zs, hcs, _, hl', _⟩
  · simp at hcs
    exact ⟨none, 0, 0, hcs, Nat.le_refl _⟩
  · simp at hcs
    exact ⟨_, n', c, hcs, hl'⟩
theorem opens_int64SS : Opens enc Try.prog W 22 (fun v l => RdLL W W.heap.size v l) := by
  refine opens_rdN (R := rLL) (sz := 1) Try.underlying22 (by kernel_rfl) (by decide) ?_
  intro us n y hl h
  match us, hl with
  | [s], _ =>
    obtain ⟨l, hl, hc⟩ := opens_int64Sc _ _ _ h
    exact ⟨l, s, rfl, hl, hc⟩
set_option maxRecDepth 100000 in
theorem opens_carS : Opens enc Try.prog W 23 (fun v l => RdCs W W.heap.size v l) := by
  intro n v y h
  obtain ⟨l, A, n', c, rfl, hn, hl, hh⟩ := opens_rdN (R := fun _ _ us (x : Car) => us = x.cells) (sz := 2) Try.underlying23 (by kernel_rfl) (by decide) (by
    intro us n y hl h
    obtain ⟨hs, hf⟩ := opens_fields Try.underlying109 (by kernel_rfl) (by kernel_rfl) h
    obtain ⟨u0, q0, z0, g0, t0⟩ := hf 0 _ rfl
    obtain ⟨u1, q1, z1, g1, t1⟩ := hf 1 _ rfl
    obtain ⟨b, rfl⟩ := opens_bool (enc := enc) (W := W) (P := Try.prog) Try.underlying4 _ _ _ t0
    obtain ⟨p, rfl, _⟩ := opens_int64 _ _ _ t1
    match us, hl with
    | [a, c], _ =>
      simp at g0 g1
      exact ⟨⟨b, p⟩, by rw [g0, g1]⟩) _ _ _ h
  refine ⟨l, A, n', c, rfl, hn, hl, fun k hk => ?_⟩
  obtain ⟨b, off, x, us, h1, h2, h3, h4, h5, rfl⟩ := hh k hk
  exact ⟨b, off, x, h1, h2, h3, h5⟩
set_option maxRecDepth 100000 in
theorem opens_infoS : Opens enc Try.prog W 24 (fun v l => RdIs W W.heap.size v l) := by
  refine opens_rdN (R := rInf) (sz := 6) Try.underlying24 (by kernel_rfl) (by decide) ?_
  intro us n y hl h
  obtain ⟨hs, hf⟩ := opens_fields Try.underlying91 (by kernel_rfl) (by kernel_rfl) h
  obtain ⟨u0, q0, z0, g0, t0⟩ := hf 0 _ rfl
  obtain ⟨u1, q1, z1, g1, t1⟩ := hf 1 _ rfl
  obtain ⟨u2, q2, z2, g2, t2⟩ := hf 2 _ rfl
  obtain ⟨u3, q3, z3, g3, t3⟩ := hf 3 _ rfl
  obtain ⟨u4, q4, z4, g4, t4⟩ := hf 4 _ rfl
  obtain ⟨u5, q5, z5, g5, t5⟩ := hf 5 _ rfl
  obtain ⟨x0, rfl, _⟩ := opens_int64 _ _ _ t0
  obtain ⟨x1, rfl, _⟩ := opens_int64 _ _ _ t1
  obtain ⟨x2, rfl, _⟩ := opens_int64 _ _ _ t2
  obtain ⟨x3, rfl, _⟩ := opens_int64 _ _ _ t3
  obtain ⟨x4, rfl, _⟩ := opens_int64 _ _ _ t4
  obtain ⟨ps, hps, hcp⟩ := opens_int64Sc _ _ _ t5
  match us, hl with
  | [a, b, c, d, e, f], _ =>
    simp at g0 g1 g2 g3 g4 g5
    exact ⟨⟨x0, x1, x2, x3, x4, ps⟩, u5, by rw [g0, g1, g2, g3, g4, g5], hps, hcp⟩

set_option maxRecDepth 100000 in
theorem open_machine {base : Nat} {d : DataW H} {p : List MemPlace} {v : Value} (ho : Value.okWide Try.prog W .any base 27 v)
    (h : DataW.Trod enc Try.prog W 0 (fun _ => true) true 27 v d p) : ∃ m : Mc, RdM W W.heap.size v m ∧ Fit m.wd ∧ Fit m.rk := by
  obtain ⟨cs, rfl, hs, hf⟩ := opens_struct Try.underlying27 (by kernel_rfl) (by kernel_rfl) ho h
  obtain ⟨u0, q0, z0, g0, t0⟩ := hf 0 _ rfl
  obtain ⟨u1, q1, z1, g1, t1⟩ := hf 1 _ rfl
  obtain ⟨u2, q2, z2, g2, t2⟩ := hf 2 _ rfl
  obtain ⟨u3, q3, z3, g3, t3⟩ := hf 3 _ rfl
  obtain ⟨u4, q4, z4, g4, t4⟩ := hf 4 _ rfl
  obtain ⟨u5, q5, z5, g5, t5⟩ := hf 5 _ rfl
  obtain ⟨u6, q6, z6, g6, t6⟩ := hf 6 _ rfl
  obtain ⟨x0, rfl, f0⟩ := opens_int64 _ _ _ t0
  obtain ⟨x1, rfl, f1⟩ := opens_int64 _ _ _ t1
  obtain ⟨fr, h2⟩ := opens_int64SS _ _ _ t2
  obtain ⟨bk, h3⟩ := opens_int64SS _ _ _ t3
  obtain ⟨ca, h4⟩ := opens_carS _ _ _ t4
  obtain ⟨ls, h5⟩ := opens_infoS _ _ _ t5
  obtain ⟨dr, h6, h7⟩ := opens_int64Sc _ _ _ t6
  refine ⟨⟨x0, x1, fr, bk, ca, ls, dr⟩, ⟨u2, u3, u4, u5, u6, ?_, h2, h3, h4, h5, h6, h7⟩, f0, f1⟩
  congr 1
  apply Array.ext'
  obtain ⟨cl⟩ := cs
  simp at hs g0 g1 g2 g3 g4 g5 g6
  match cl, hs with
  | [a, b, c, d, e, f, g], _ =>
    simp at g0 g1 g2 g3 g4 g5 g6
    rw [g0, g1, g2, g3, g4, g5, g6]
end

end Go.Proofs.Ythhpjgdeehcgjaa

/-
  Machines by value in the laws: their form, kept behind what only adds memory or turns other rows.
-/
namespace Go.Proofs.Ythhpjgdeehcgjaa
set_option linter.unusedVariables false
set_option linter.unusedSimpArgs false
open Go.RowKit

theorem RdM.shape {w : World} {B : Nat} {v : Value} {m : Mc} (h : RdM w B v m) : ∃ AF cF AG cG AC cC AI cI AD cD, v = .agg #[.int .i64 m.wd, .int .i64 m.rk, .slice AF m.fr.length cF, .slice AG m.bk.length cG, .slice AC m.cs.length cC, .slice AI m.ls.length cI, .slice AD m.dr.length cD] := by
  obtain ⟨f, b, cs, ls, d, rfl, h1, h2, h3, h4, h5, h6⟩ := h
  obtain ⟨AF, cF, rfl⟩ := RdN.shape h1
  obtain ⟨AG, cG, rfl⟩ := RdN.shape h2
  obtain ⟨AC, cC, rfl⟩ := RdS.lens h3
  obtain ⟨AI, cI, rfl⟩ := RdN.shape h4
  obtain ⟨AD, cD, rfl⟩ := RdI.len h5
  exact ⟨_, _, _, _, _, _, _, _, _, _, rfl⟩
theorem RdM.of_own {w : World} {lo hi : Nat} {v : Value} {m : Mc} (h : OwM w lo hi v m) : RdM w hi v m := by
  obtain ⟨f, b, cs, ls, d, rfl, a0, a1, a2, a3, a4, a5, g0, g1, g2, g3, g4, g5, g6, h1, h2, h3, h4, h5⟩ := h
  refine ⟨f, b, cs, ls, d, rfl, RdLL.more (RdN.of_own (fun lo hi us x h => oLL_rd h) (fun B B' us x hB h => rLL_more hB us x h) (by decide) h1) (by omega), RdLL.more (RdN.of_own (fun lo hi us x h => oLL_rd h) (fun B B' us x hB h => rLL_more hB us x h) (by decide) h2) (by omega),
    (RdS.of_own Car.len h3).more (by omega), RdIs.more (RdN.of_own (fun lo hi us x h => oInf_rd h) (fun B B' us x hB h => rInf_more hB us x h) (by decide) h4) (by omega), (RdI.of_own h5).more (by omega), h5.cap⟩
theorem OwM.shape {w : World} {lo hi : Nat} {v : Value} {m : Mc} (h : OwM w lo hi v m) : ∃ AF cF AG cG AC cC AI cI AD cD, v = .agg #[.int .i64 m.wd, .int .i64 m.rk, .slice AF m.fr.length cF, .slice AG m.bk.length cG, .slice AC m.cs.length cC, .slice AI m.ls.length cI, .slice AD m.dr.length cD] := RdM.shape (RdM.of_own h)
theorem OwM.below {w w' : World} {lo hi : Nat} {v : Value} {m : Mc} (h : OwM w lo hi v m) (hb : Below hi w w') : OwM w' lo hi v m := by
  obtain ⟨f, b, cs, ls, d, e, a0, a1, a2, a3, a4, a5, g0, g1, g2, g3, g4, g5, g6, h1, h2, h3, h4, h5⟩ := h
  exact ⟨f, b, cs, ls, d, e, a0, a1, a2, a3, a4, a5, g0, g1, g2, g3, g4, g5, g6, OwLL.below h1 (hb.mono (by omega)), OwLL.below h2 (hb.mono (by omega)), h3.below (hb.mono (by omega)), OwIs.below h4 (hb.mono (by omega)), h5.below (hb.mono (by omega))⟩
theorem OwM.only {w w' : World} {lo hi a b : Nat} {v : Value} {m : Mc} (h : OwM w lo hi v m) (hw : Only a b w w') (hd : hi ≤ a ∨ b ≤ lo) (hs : hi ≤ w.heap.size) : OwM w' lo hi v m := by
  obtain ⟨f, b', cs, ls, d, e, a0, a1, a2, a3, a4, a5, g0, g1, g2, g3, g4, g5, g6, h1, h2, h3, h4, h5⟩ := h
  exact ⟨f, b', cs, ls, d, e, a0, a1, a2, a3, a4, a5, g0, g1, g2, g3, g4, g5, g6, OwLL.only h1 hw (by omega) (by omega), OwLL.only h2 hw (by omega) (by omega), h3.only hw (by omega) (by omega), OwIs.only h4 hw (by omega) (by omega), h5.only hw (by omega) (by omega)⟩

end Go.Proofs.Ythhpjgdeehcgjaa

/-
  What the laws' marks do to a machine that is a call's own: only its own rows turn.
-/
namespace Go.Proofs.Ythhpjgdeehcgjaa
set_option linter.unusedVariables false
set_option linter.unusedSimpArgs false
open Go.RowKit

def sumL {α : Type} (f : α → Nat) (l : List α) : Nat := (l.map f).sum
theorem sumL_drop {α : Type} {f : α → Nat} {l : List α} {k : Nat} {x : α} (h : l[k]? = some x) : sumL f (l.drop k) = f x + sumL f (l.drop (k + 1)) := by
  unfold sumL
  rw [drop_of_get h, List.map_cons, List.sum_cons]
theorem Only.keepOw {w w' : World} {lo hi a b E sz n : Nat} {v : Value} {xs : List Value} (h : OwC w a b E sz v n xs) (hw : Only lo hi w w') (hd : b ≤ lo ∨ hi ≤ a) (hs : b ≤ w.heap.size) : OwC w' a b E sz v n xs := h.only hw hd hs

theorem rowIs_only {w w' : World} {g t n : Nat} {f : Nat → Value} {lo hi : Nat} (h : w.rowIs g t n f) (hw : Only lo hi w w') (hd : g < lo ∨ hi ≤ g) (hs : g < w.heap.size) : w'.rowIs g t n f := by
  obtain ⟨cur, h1, h2, h3⟩ := h
  exact ⟨cur, (hw.block g hs hd).trans h1, h2, h3⟩

theorem rowIs_set5 {w : World} {b t n : Nat} {f : Nat → Value} (h : w.rowIs b t n f) (o : Nat) (u0 u1 u2 u3 u4 : Value) :
    (((((w.setCell ⟨b, o, none⟩ u0).setCell ⟨b, o + 1, none⟩ u1).setCell ⟨b, o + 2, none⟩ u2).setCell ⟨b, o + 3, none⟩ u3).setCell ⟨b, o + 4, none⟩ u4).rowIs b t n
      (fun j => if j = o + 4 then u4 else if j = o + 3 then u3 else if j = o + 2 then u2 else if j = o + 1 then u1 else if j = o then u0 else f j) :=
  ((((h.set _ _).set _ _).set _ _).set _ _).set _ _
def put5 (o : Nat) (u0 u1 u2 u3 u4 : Value) (f : Nat → Value) (j : Nat) : Value := if j = o + 4 then u4 else if j = o + 3 then u3 else if j = o + 2 then u2 else if j = o + 1 then u1 else if j = o then u0 else f j
theorem put5_keep {f f2 : Nat → Value} {n k : Nat} (h : ∀ j, j < n → f2 (j * 6 + 5) = f (j * 6 + 5)) (u0 u1 u2 u3 u4 : Value) : ∀ j, j < n → put5 (k * 6) u0 u1 u2 u3 u4 f2 (j * 6 + 5) = f (j * 6 + 5) := by
  intro j hj
  unfold put5
  rw [if_neg (by omega), if_neg (by omega), if_neg (by omega), if_neg (by omega), if_neg (by omega), h j hj]
theorem CellsAt.only {w w' : World} {lo hi b o : Nat} {us : List Value} (h : CellsAt w b o us) (hw : Only lo hi w w') (hd : b < lo ∨ hi ≤ b) (hs : b < w.heap.size) : CellsAt w' b o us :=
  h.keep fun _ => World.cell?_of_block (hw.block b hs hd)

set_option maxHeartbeats 4000000 in
set_option maxRecDepth 100000 in
theorem markLL_any (v : Value) (l : List (List Int)) (K : Int) (w : World) (lo hi : Nat) (ho : OwN oLL 25 1 w lo hi v l) (hh : hi ≤ w.heap.size) (hK : 0 ≤ K) (hn : K + (sumL List.length l : Int) ≤ 1000000000000) :
    Calls Try.prog 44 #[v, .int .i64 K] w fun e w' => e = .returned (.int .i64 (K + (sumL List.length l : Int))) ∧ Only lo hi w w' := by
  obtain ⟨o0, o1, a, b, f, g0, g1, g2, g3, g4, g5⟩ := ho
  obtain ⟨A, c, rfl, hbig, -⟩ := g4.cells
  have HO := Lib.hid g4
  have HG := Lib.hid g5
  have H2 := Lib.hid g2
  have H3 := Lib.hid g3
  generalize hT : K + (sumL List.length l : Int) = T at *
  have HT := Lib.hid (show K + (sumL List.length (l.drop 0) : Int) = T from hT)
  clear g4 g5 g2 g3 hT
  generalize hl : l.length = n at *
  have HL := Lib.hid hl
  clear hl
  go_enter Try.func44, Try.ntmps44
  go_wp2
  go_loopw [1, 5] (fun t i wr => ∃ (k : Nat) (z : Int), k ≤ n ∧ i = .int .i64 k ∧ t = .int .i64 z ∧ 0 ≤ z ∧ Hid (z + (sumL List.length (l.drop k) : Int) = T) ∧ Hid (OwC wr o0 o1 25 1 (.slice A n c) n ((List.range (n * 1)).map f)) ∧
    Hid (∀ j x, k ≤ j → l[j]? = some x → oLL wr (a j) (b j) ((List.range 1).map fun q => f (j * 1 + q)) x) ∧ Only lo hi w wr) (fun _ i _ => n - (intOf i).toNat)
  case atStart => exact ⟨0, K, Nat.zero_le _, rfl, rfl, hK, HT.out, HO.out, fun j x _ hx => HG.out j x hx, Only.refl _ _ _⟩
  case round =>
    rename_i wr
    obtain ⟨k, z, hk, rfl, rfl, z0, hz, how, hg, hon⟩ := hrel
    by_cases hlt : k < n
    · have hx : l[k]? = some (l[k]'(by rw [HL.out]; exact hlt)) := List.getElem?_eq_getElem _
      obtain ⟨x, hxe⟩ : ∃ x, x = l[k]'(by rw [HL.out]; exact hlt) := ⟨_, rfl⟩
      rw [← hxe] at hx
      obtain ⟨s, hs, hos⟩ := hg.out k x (Nat.le_refl _) hx
      simp at hs
      obtain ⟨A', c', e', -, hcell⟩ := how.out.cells
      injection e' with q1 _ q3
      subst q1 q3
      obtain ⟨g, rfl, hg0, hg1, -, hcc⟩ := hcell k hlt
      have hck := hcc k s (by omega) (by simp [hlt, hs])
      obtain ⟨A2, c2, rfl, -⟩ := hos.cells
      have hsm := sumL_drop (f := List.length) hx
      have hzb : z + ((x.length : Nat) : Int) + (sumL List.length (l.drop (k + 1)) : Int) = T := by rw [← hz.out, hsm]; omega
      have HZ := Lib.hid hzb
      have HOS := Lib.hid hos
      have HON := Lib.hid hon
      obtain ⟨w1, w2, w3⟩ := H2.out k hlt
      have hzz : z + ((x.length : Nat) : Int) ≤ 1000000000000 := by omega
      clear hx hxe hs hos hcell hcc hz hon hsm hzb
      go_wp2_with fail
      refine (markI_any _ _ _ _ _ _ _ HOS.out z0 hzz).mono ?_
      rintro e wn ⟨rfl, hmo, hmw⟩
      have hsz := HON.out.size
      have hbk : ∀ j x, k + 1 ≤ j → l[j]? = some x → oLL wn (a j) (b j) ((List.range 1).map fun q => f (j * 1 + q)) x := by
        intro j y hj hy
        have hjn : j < n := by rw [← HL.out]; exact (List.getElem?_eq_some_iff.1 hy).1
        obtain ⟨s', h1, h2⟩ := hg.out j y (by omega) hy
        have h3 := H2.out j hjn
        refine ⟨s', h1, h2.only hmw ?_ (by omega)⟩
        rcases H3.out k j hlt hjn (by omega) with h | h
        · exact .inr h
        · exact .inl h
      have HBK := Lib.hid hbk
      have HOW := Lib.hid (how.out.only hmw (by omega) (by omega))
      have HMW := Lib.hid (HON.out.trans (hmw.wide w1 w2))
      clear hbk hmo hmw
      go_wp2
      exact ⟨⟨k + 1, z + ((x.length : Nat) : Int), by omega, by go_num, rfl, by omega, HZ.out, HOW.out, HBK.out, HMW.out⟩, by simp [intOf]; omega⟩
    · have HON := Lib.hid hon
      have HZ := Lib.hid (show z = T by rw [← hz.out, List.drop_of_length_le (by have := HL.out; omega)]; simp [sumL])
      clear hon hz
      go_wp2
      go_ret
      exact ⟨ret_int HZ.out, HON.out⟩

set_option maxHeartbeats 4000000 in
set_option maxRecDepth 100000 in
theorem markCs_any (v : Value) (n : Nat) (xs : List Value) (K : Int) (w : World) (lo hi : Nat) (ho : OwC w lo hi 94 2 v n xs) (hK : 0 ≤ K) (hn : K + (n : Int) * 2 ≤ 1000000000000) :
    Calls Try.prog 45 #[v, .int .i64 K] w fun e w' => e = .returned (.int .i64 (K + (n : Int) * 2)) ∧ Only lo hi w w' := by
  rcases ho.2 with ⟨rfl, A, c, rfl⟩ | ⟨g, cap, cur, rfl, hlo, hhi, hg, hnc, hcap, hsz, hx⟩
  · go_enter Try.func45, Try.ntmps45
    go_wp2
    go_loopw [1, 5] (fun t i wr => t = .int .i64 K ∧ i = .int .i64 0 ∧ w = wr) (fun _ i _ => 0 - (intOf i).toNat)
    case atStart => exact ⟨rfl, rfl, rfl⟩
    case round =>
      rename_i wr
      obtain ⟨rfl, rfl, rfl⟩ := hrel
      go_wp2
      go_ret
      exact ⟨ret_int (by simp), Only.refl _ _ _⟩
  · have hrow0 : w.rowIs g 94 (cap * 2) (fun i => cur.getD i undef) := ⟨cur, hg, hsz, fun i hi => row_getD (by omega)⟩
    have HR0 := Lib.hid hrow0
    have Hnc := Lib.hid hnc
    clear hx hg hrow0 ho hsz hnc
    go_enter Try.func45, Try.ntmps45
    go_wp2
    go_loopw [1, 5] (fun t i wr => ∃ (k : Nat) (f : Nat → Value), k ≤ n ∧ i = .int .i64 k ∧ t = .int .i64 (K + (k : Int) * 2) ∧ wr.rowIs g 94 (cap * 2) f ∧ Only lo hi w wr) (fun _ i _ => n - (intOf i).toNat)
    case atStart => exact ⟨0, _, Nat.zero_le _, rfl, by simp, HR0.out, Only.refl _ _ _⟩
    case round =>
      rename_i wr
      obtain ⟨k, f, hk, rfl, rfl, hrow, hO⟩ := hrel
      by_cases hlt : k < n
      · have hcc := Hnc.out
        have d0 := hrow.cell (i := k * 2) (by omega)
        have d1 := hrow.cell (i := k * 2 + 1) (by omega)
        have g0 := fun i => hrow.frozen i
        have HR := Lib.hid hrow
        have HO := Lib.hid hO
        clear hrow hO hcc
        go_wp2
        exact ⟨⟨k + 1, _, by omega, by go_num, by first | go_num | (congr 1; push_cast; omega), (HR.out.set _ _).set _ _, (HO.out.setCell hlo hhi _).setCell hlo hhi _⟩, by simp [intOf]; omega⟩
      · have HR := Lib.hid hrow
        have HO := Lib.hid hO
        clear hrow hO
        obtain rfl : k = n := by omega
        go_wp2
        go_ret
        exact ⟨rfl, HO.out⟩

set_option maxHeartbeats 8000000 in
set_option maxRecDepth 100000 in
theorem markIs_any (v : Value) (l : List Inf) (K : Int) (w : World) (lo hi : Nat) (ho : OwN oInf 97 6 w lo hi v l) (hh : hi ≤ w.heap.size) (hK : 0 ≤ K) (hn : K + (l.length : Int) * 5 + (sumL infL l : Int) ≤ 1000000000000) :
    Calls Try.prog 46 #[v, .int .i64 K] w fun e w' => e = .returned (.int .i64 (K + (l.length : Int) * 5 + (sumL infL l : Int))) ∧ Only lo hi w w' := by
  obtain ⟨o0, o1, a, b, f, g0, g1, g2, g3, g4, g5⟩ := ho
  have H2 := Lib.hid g2
  have H3 := Lib.hid g3
  have HG := Lib.hid g5
  clear g2 g3 g5
  rcases g4.2 with ⟨hl0, A, c, rfl⟩ | ⟨g, cap, cur, rfl, hlo, hhi, hg, hnc, hcap, hsz, hx⟩
  · have hnil : l = [] := List.eq_nil_of_length_eq_zero hl0
    subst hnil
    clear g4
    go_enter Try.func46, Try.ntmps46
    go_wp2
    go_loopw [1, 5] (fun t i wr => t = .int .i64 K ∧ i = .int .i64 0 ∧ w = wr) (fun _ i _ => 0 - (intOf i).toNat)
    case atStart => exact ⟨rfl, rfl, rfl⟩
    case round =>
      rename_i wr
      obtain ⟨rfl, rfl, rfl⟩ := hrel
      go_wp2
      go_ret
      exact ⟨ret_int (by simp [sumL]), Only.refl _ _ _⟩
  · generalize hl : l.length = n at *
    have HL := Lib.hid hl
    have hnb : (n : Int) ≤ 200000000000 := by omega
    generalize hT : K + (n : Int) * 5 + (sumL infL l : Int) = T at *
    have HT := Lib.hid (show K + ((0 : Nat) : Int) * 5 + (n : Int) * 5 + (sumL infL (l.drop 0) : Int) = T by rw [← hT]; simp)
    have HR0 := Lib.hid (show w.rowIs g 97 (cap * 6) (fun i => cur.getD i undef) from ⟨cur, hg, hsz, fun i hi => row_getD (by omega)⟩)
    have HF := Lib.hid (show ∀ j, j < n → (fun i => cur.getD i undef) (j * 6 + 5) = f (j * 6 + 5) by
      intro j hj
      have h := congrArg (fun t : List Value => t[j * 6 + 5]?) hx
      have hlt : j * 6 + 5 < n * 6 := by omega
      simp only [List.getElem?_take, if_pos hlt, List.getElem?_map, List.getElem?_range hlt, Option.map_some, Array.getElem?_toList] at h
      show cur.getD (j * 6 + 5) undef = _
      rw [Array.getD_eq_getD_getElem?, h]
      rfl)
    have Hnc := Lib.hid hnc
    clear hx hg g4 hsz hnc hl hT
    go_enter Try.func46, Try.ntmps46
    go_wp2
    go_loopw [1, 5] (fun t i wr => ∃ (k : Nat) (z : Int) (f2 : Nat → Value), k ≤ n ∧ i = .int .i64 k ∧ t = .int .i64 z ∧ 0 ≤ z ∧ Hid (z + ((n : Int) - (k : Int)) * 5 + (sumL infL (l.drop k) : Int) = T) ∧ wr.rowIs g 97 (cap * 6) f2 ∧ Hid (∀ j, j < n → f2 (j * 6 + 5) = f (j * 6 + 5)) ∧
      Hid (∀ j x, k ≤ j → l[j]? = some x → oInf wr (a j) (b j) ((List.range 6).map fun q => f (j * 6 + q)) x) ∧ Only lo hi w wr) (fun _ i _ => n - (intOf i).toNat)
    case atStart => exact ⟨0, K, _, Nat.zero_le _, rfl, rfl, hK, by unfold Hid; rw [← HT.out]; simp, HR0.out, HF.out, fun j x _ hx => HG.out j x hx, Only.refl _ _ _⟩
    case round =>
      rename_i wr
      obtain ⟨k, z, f2, hk, rfl, rfl, z0, hz, hrow, hf2, hin, hon⟩ := hrel
      by_cases hlt : k < n
      · have hx : l[k]? = some (l[k]'(by rw [HL.out]; exact hlt)) := List.getElem?_eq_getElem _
        obtain ⟨x, hxe⟩ : ∃ x, x = l[k]'(by rw [HL.out]; exact hlt) := ⟨_, rfl⟩
        rw [← hxe] at hx
        obtain ⟨s, hs, hos⟩ := hin.out k x (Nat.le_refl _) hx
        simp [show List.range 6 = [0, 1, 2, 3, 4, 5] from rfl] at hs
        have hcc := Hnc.out
        have d0 := hrow.cell (i := k * 6) (by omega)
        have d1 := hrow.cell (i := k * 6 + 1) (by omega)
        have d2 := hrow.cell (i := k * 6 + 2) (by omega)
        have d3 := hrow.cell (i := k * 6 + 3) (by omega)
        have d4 := hrow.cell (i := k * 6 + 4) (by omega)
        have d5 := hrow.cell (i := k * 6 + 5) (by omega)
        rw [hf2.out k hlt, hs.2.2.2.2.2] at d5
        have fz := fun i => hrow.frozen i
        obtain ⟨A2, c2, rfl, -⟩ := hos.cells
        have hsm : sumL infL (l.drop k) = x.ps.length + sumL infL (l.drop (k + 1)) := sumL_drop (f := infL) hx
        have hzb : z + 1 + 1 + 1 + 1 + 1 + ((x.ps.length : Nat) : Int) + ((n : Int) - ((k + 1 : Nat) : Int)) * 5 + (sumL infL (l.drop (k + 1)) : Int) = T := by rw [← hz.out, hsm]; push_cast; omega
        have HZ := Lib.hid hzb
        obtain ⟨w1, w2, w3⟩ := H2.out k hlt
        have hzz : z + 1 + 1 + 1 + 1 + 1 + ((x.ps.length : Nat) : Int) ≤ 1000000000000 := by omega
        have hset : ∀ u0 u1 u2 u3 u4, Only o0 o1 wr (((((wr.setCell ⟨g, k * 6, none⟩ u0).setCell ⟨g, k * 6 + 1, none⟩ u1).setCell ⟨g, k * 6 + 2, none⟩ u2).setCell ⟨g, k * 6 + 3, none⟩ u3).setCell ⟨g, k * 6 + 4, none⟩ u4) :=
          fun _ _ _ _ _ => (((((Only.refl _ _ _).setCell hlo hhi _).setCell hlo hhi _).setCell hlo hhi _).setCell hlo hhi _).setCell hlo hhi _
        have HSET := Lib.hid hset
        have HROW := Lib.hid hrow
        have HON := Lib.hid hon
        have HOS := Lib.hid hos
        have hwz := hon.size
        clear hx hxe hs hos hz hon hsm hzb hset hrow hcc
        go_wp2_with fail
        refine (markI_any _ _ _ _ _ _ _ (HOS.out.only (HSET.out _ _ _ _ _) w3 (by omega)) (by omega) hzz).mono ?_
        rintro e wn ⟨rfl, hmo, hmw⟩
        have hsz := HON.out.size
        have hws := (HSET.out (.int .i64 z) (.int .i64 (z + 1)) (.int .i64 (z + 1 + 1)) (.int .i64 (z + 1 + 1 + 1)) (.int .i64 (z + 1 + 1 + 1 + 1)))
        have hbk : ∀ j x, k + 1 ≤ j → l[j]? = some x → oInf wn (a j) (b j) ((List.range 6).map fun q => f (j * 6 + q)) x := by
          intro j y hj hy
          have hjn : j < n := by rw [← HL.out]; exact (List.getElem?_eq_some_iff.1 hy).1
          obtain ⟨s', h1, h2⟩ := hin.out j y (by omega) hy
          have h3 := H2.out j hjn
          have h4 := h2.only hws h3.2.2 (by omega)
          have h5 := hws.size
          refine ⟨s', h1, h4.only hmw ?_ (by omega)⟩
          rcases H3.out k j hlt hjn (by omega) with h | h
          · exact .inr h
          · exact .inl h
        have HBK := Lib.hid hbk
        have hgl : g < wr.heap.size := by omega
        have hrow2 : wn.rowIs g 97 (cap * 6) (put5 (k * 6) (.int .i64 z) (.int .i64 (z + 1)) (.int .i64 (z + 1 + 1)) (.int .i64 (z + 1 + 1 + 1)) (.int .i64 (z + 1 + 1 + 1 + 1)) f2) := rowIs_only (rowIs_set5 HROW.out (k * 6) _ _ _ _ _) hmw (by omega) (by have := hws.size; omega)
        have HROW2 := Lib.hid hrow2
        have HF2 := Lib.hid (put5_keep (k := k) hf2.out (.int .i64 z) (.int .i64 (z + 1)) (.int .i64 (z + 1 + 1)) (.int .i64 (z + 1 + 1 + 1)) (.int .i64 (z + 1 + 1 + 1 + 1)))
        clear hrow2
        have HMW := Lib.hid ((HON.out.trans (hws.wide g0 g1)).trans (hmw.wide w1 w2))
        clear hbk hmo hmw hws
        go_wp2
        refine ⟨⟨k + 1, z + 1 + 1 + 1 + 1 + 1 + ((x.ps.length : Nat) : Int), put5 (k * 6) (.int .i64 z) (.int .i64 (z + 1)) (.int .i64 (z + 1 + 1)) (.int .i64 (z + 1 + 1 + 1)) (.int .i64 (z + 1 + 1 + 1 + 1)) f2, ?_, by go_num, rfl, ?_, HZ.out, HROW2.out, HF2.out, HBK.out, HMW.out⟩, ?_⟩
        · omega
        · omega
        · simp [intOf]; omega
      · have HON := Lib.hid hon
        have HZ := Lib.hid (show z = T by
          rw [← hz.out, List.drop_of_length_le (by have := HL.out; omega), show (n : Int) - (k : Int) = 0 by omega]
          simp [sumL])
        clear hon hz hrow
        go_wp2
        go_ret
        exact ⟨ret_int HZ.out, HON.out⟩

/-- How many marks a machine takes. -/
def mkM (m : Mc) : Int := (sumL List.length m.fr : Int) + (sumL List.length m.bk : Int) + (m.cs.length : Int) * 2 + ((m.ls.length : Int) * 5 + (sumL infL m.ls : Int)) + (m.dr.length : Int)
theorem szGo_sum {α : Type} (f : α → Nat) : ∀ (l : List α) (z : Int), 0 ≤ szGo f z l → szGo f z l + (sumL f l : Int) = z
  | [], z, h => by simp [szGo, sumL]
  | x :: xs, z, h => by
    rw [szGo] at h ⊢
    split at h
    · rename_i hx
      rw [if_pos hx]
      have h1 := szGo_sum f xs _ h
      have h2 : sumL f (x :: xs) = f x + sumL f xs := by simp [sumL]
      rw [h2]
      push_cast
      omega
    · omega
theorem mkM_le {m : Mc} {z : Int} (h : szM 1048576 m = z) (hz : 0 ≤ z) : 0 ≤ mkM m ∧ mkM m ≤ 5242880 := by
  unfold szM at h
  simp only at h
  by_cases h1 : szLLd 1048576 m.fr < 0
  · rw [if_pos h1] at h; omega
  rw [if_neg h1] at h
  by_cases h2 : szLLd (szLLd 1048576 m.fr) m.bk < 0
  · rw [if_pos h2] at h; omega
  rw [if_neg h2] at h
  generalize hz1 : szLLd 1048576 m.fr = z1 at *
  generalize hz2 : szLLd z1 m.bk = z2 at *
  by_cases h3 : szOfM z2 m.cs.length < 0
  · rw [if_pos h3] at h; omega
  rw [if_neg h3] at h
  generalize hz3 : szOfM z2 m.cs.length = z3 at *
  by_cases h4 : szIsd z3 m.ls < 0
  · rw [if_pos h4] at h; omega
  rw [if_neg h4] at h
  generalize hz4 : szIsd z3 m.ls = z4 at *
  have e1 : z1 + (m.fr.length : Int) + (sumL List.length m.fr : Int) = 1048576 := by
    unfold szLLd at hz1
    split at hz1
    · have := szGo_sum List.length m.fr _ (by rw [hz1]; omega)
      rw [hz1] at this
      omega
    · omega
  have e2 : z2 + (m.bk.length : Int) + (sumL List.length m.bk : Int) = z1 := by
    unfold szLLd at hz2
    split at hz2
    · have := szGo_sum List.length m.bk _ (by rw [hz2]; omega)
      rw [hz2] at this
      omega
    · omega
  have e3 : z3 + (m.cs.length : Int) = z2 := by
    unfold szOfM at hz3
    split at hz3 <;> omega
  have e4 : z4 + (m.ls.length : Int) + (sumL infL m.ls : Int) = z3 := by
    unfold szIsd at hz4
    split at hz4
    · have := szGo_sum infL m.ls _ (by rw [hz4]; omega)
      rw [hz4] at this
      omega
    · omega
  have e5 : z + (m.dr.length : Int) = z4 := by
    unfold szOfM at h
    split at h <;> omega
  unfold mkM
  omega

set_option maxHeartbeats 4000000 in
set_option maxRecDepth 100000 in
theorem markMachine_any (v : Value) (m : Mc) (w : World) (lo hi : Nat) (ho : OwM w lo hi v m) (hh : hi ≤ w.heap.size) (h0 : 0 ≤ mkM m) (hn : mkM m ≤ 5242880) :
    Calls Try.prog 12 #[v, .int .i64 1] w fun e w' => e = .returned (.int .i64 (1 + mkM m)) ∧ Only lo hi w w' := by
  obtain ⟨f, b, cs, ls, d, rfl, a0, a1, a2, a3, a4, a5, p0, p1, p2, p3, p4, p5, p6, of, ob, oc, ol, od⟩ := ho
  obtain ⟨AF, cF, rfl⟩ := OwN.shape of
  obtain ⟨AG, cG, rfl⟩ := OwN.shape ob
  obtain ⟨AC, cC, rfl, -⟩ := oc.cells
  obtain ⟨AI, cI, rfl⟩ := OwN.shape ol
  obtain ⟨AD, cD, rfl, -⟩ := od.cells
  have e1 : (sumL List.length m.fr : Int) + (sumL List.length m.bk : Int) + (m.cs.length : Int) * 2 + ((m.ls.length : Int) * 5 + (sumL infL m.ls : Int)) + (m.dr.length : Int) ≤ 5242880 := hn
  have HV := Lib.hid (show mkM m = (sumL List.length m.fr : Int) + (sumL List.length m.bk : Int) + (m.cs.length : Int) * 2 + ((m.ls.length : Int) * 5 + (sumL infL m.ls : Int)) + (m.dr.length : Int) from rfl)
  clear hn h0
  have hcl : CellsAt (w.alloc (.cells #[.int .i64 m.wd, .int .i64 m.rk, .slice AF m.fr.length cF, .slice AG m.bk.length cG, .slice AC m.cs.length cC, .slice AI m.ls.length cI, .slice AD m.dr.length cD] 39)) w.heap.size 0 [.int .i64 m.wd, .int .i64 m.rk, .slice AF m.fr.length cF, .slice AG m.bk.length cG, .slice AC m.cs.length cC, .slice AI m.ls.length cI, .slice AD m.dr.length cD] := CellsAt.of_alloc
  have hbw : Below w.heap.size w (w.alloc (.cells #[.int .i64 m.wd, .int .i64 m.rk, .slice AF m.fr.length cF, .slice AG m.bk.length cG, .slice AC m.cs.length cC, .slice AI m.ls.length cI, .slice AD m.dr.length cD] 39)) := (Below.refl _ _).alloc (Nat.le_refl _) _
  have hsw : (w.alloc (.cells #[.int .i64 m.wd, .int .i64 m.rk, .slice AF m.fr.length cF, .slice AG m.bk.length cG, .slice AC m.cs.length cC, .slice AI m.ls.length cI, .slice AD m.dr.length cD] 39)).heap.size = w.heap.size + 1 := by simp
  have OF := Lib.hid (OwLL.below of (hbw.mono (by omega)))
  have OB := Lib.hid (OwLL.below ob (hbw.mono (by omega)))
  have OC := Lib.hid (oc.below (hbw.mono (by omega)))
  have OL := Lib.hid (OwIs.below ol (hbw.mono (by omega)))
  have OD := Lib.hid (od.below (hbw.mono (by omega)))
  have HCL := Lib.hid hcl
  have HSW := Lib.hid hsw
  have BW : Hid (Only lo hi w (w.alloc (.cells #[.int .i64 m.wd, .int .i64 m.rk, .slice AF m.fr.length cF, .slice AG m.bk.length cG, .slice AC m.cs.length cC, .slice AI m.ls.length cI, .slice AD m.dr.length cD] 39))) := (Only.refl _ _ _).alloc _
  clear of ob oc ol od hcl hbw hsw
  go_enter Try.func12, Try.ntmps12
  go_wp2_with fail
  refine (markLL_any _ m.fr _ _ _ _ OF.out (by have := HSW.out; omega) (by omega) (by omega)).mono ?_
  rintro e w1 ⟨rfl, b1⟩
  have z1 : w.heap.size + 1 ≤ w1.heap.size := by have := b1.size; have := HSW.out; omega
  have OB1 := Lib.hid (OwLL.only OB.out b1 (by omega) (by have := HSW.out; omega))
  have OC1 := Lib.hid (OC.out.only b1 (by omega) (by have := HSW.out; omega))
  have OL1 := Lib.hid (OwIs.only OL.out b1 (by omega) (by have := HSW.out; omega))
  have OD1 := Lib.hid (OD.out.only b1 (by omega) (by have := HSW.out; omega))
  have HC1 := Lib.hid (HCL.out.only b1 (by omega) (by have := HSW.out; omega))
  have B1 := Lib.hid (BW.out.trans (b1.wide p0 (show a1 ≤ hi by omega)))
  clear b1 OF OB OC OL OD
  obtain ⟨c0, c1, c2, c3, c4, c5, c6⟩ := HC1.out.seven
  go_wp2_with fail
  clear c0 c1 c2 c3 c4 c5 c6
  refine (markLL_any _ m.bk _ _ _ _ OB1.out (by omega) (by omega) (by omega)).mono ?_
  rintro e w2 ⟨rfl, b2⟩
  have z2 : w.heap.size + 1 ≤ w2.heap.size := by have := b2.size; omega
  have OC2 := Lib.hid (OC1.out.only b2 (by omega) (by omega))
  have OL2 := Lib.hid (OwIs.only OL1.out b2 (by omega) (by omega))
  have OD2 := Lib.hid (OD1.out.only b2 (by omega) (by omega))
  have HC2 := Lib.hid (HC1.out.only b2 (by omega) (by omega))
  have B2 := Lib.hid (B1.out.trans (b2.wide (show lo ≤ a1 by omega) (show a2 ≤ hi by omega)))
  clear b2 OB1 OC1 OL1 OD1
  obtain ⟨c0, c1, c2, c3, c4, c5, c6⟩ := HC2.out.seven
  go_wp2_with fail
  clear c0 c1 c2 c3 c4 c5 c6
  refine (markCs_any _ _ _ _ _ _ _ OC2.out (by omega) (by omega)).mono ?_
  rintro e w3 ⟨rfl, b3⟩
  have z3 : w.heap.size + 1 ≤ w3.heap.size := by have := b3.size; omega
  have OL3 := Lib.hid (OwIs.only OL2.out b3 (by omega) (by omega))
  have OD3 := Lib.hid (OD2.out.only b3 (by omega) (by omega))
  have HC3 := Lib.hid (HC2.out.only b3 (by omega) (by omega))
  have B3 := Lib.hid (B2.out.trans (b3.wide (show lo ≤ a2 by omega) (show a3 ≤ hi by omega)))
  clear b3 OC2 OL2 OD2
  obtain ⟨c0, c1, c2, c3, c4, c5, c6⟩ := HC3.out.seven
  go_wp2_with fail
  clear c0 c1 c2 c3 c4 c5 c6
  refine (markIs_any _ m.ls _ _ _ _ OL3.out (by omega) (by omega) (by omega)).mono ?_
  rintro e w4 ⟨rfl, b4⟩
  have z4 : w.heap.size + 1 ≤ w4.heap.size := by have := b4.size; omega
  have OD4 := Lib.hid (OD3.out.only b4 (by omega) (by omega))
  have HC4 := Lib.hid (HC3.out.only b4 (by omega) (by omega))
  have B4 := Lib.hid (B3.out.trans (b4.wide (show lo ≤ a3 by omega) (show a4 ≤ hi by omega)))
  clear b4 OL3 OD3
  obtain ⟨c0, c1, c2, c3, c4, c5, c6⟩ := HC4.out.seven
  go_wp2_with fail
  clear c0 c1 c2 c3 c4 c5 c6
  refine (markI_any _ _ _ _ _ _ _ OD4.out (by omega) (by omega)).mono ?_
  rintro e w5 ⟨rfl, ho5, b5⟩
  have B5 := Lib.hid (B4.out.trans (b5.wide (show lo ≤ a4 by omega) (show a5 ≤ hi by omega)))
  clear b5 ho5 OD4
  go_wp2
  go_ret
  exact ⟨ret_int (by have := HV.out; omega), B5.out⟩

end Go.Proofs.Ythhpjgdeehcgjaa

/-
  A block that a walk leaves as it was.
-/
namespace Go.Proofs.Ythhpjgdeehcgjaa
set_option linter.unusedVariables false
open Go.RowKit

structure Kept (b : Nat) (w w' : World) : Prop where
  lt : b < w'.heap.size
  eq : w'.heap[b]? = w.heap[b]?
theorem Kept.refl {b : Nat} {w : World} (h : b < w.heap.size) : Kept b w w := ⟨h, rfl⟩
theorem Kept.below {b B : Nat} {w w1 w2 : World} (h : Kept b w w1) (hb : Below B w1 w2) (hB : b < B) : Kept b w w2 :=
  ⟨Nat.lt_of_lt_of_le h.lt hb.size, (hb.block b hB).trans h.eq⟩
theorem Kept.next {b : Nat} {w w1 w2 : World} (h : Kept b w w1) (hb : Below w1.heap.size w1 w2) : Kept b w w2 := h.below hb h.lt
theorem Kept.only {b lo hi : Nat} {w w1 w2 : World} (h : Kept b w w1) (hb : Only lo hi w1 w2) (hh : b < lo ∨ hi ≤ b) : Kept b w w2 :=
  ⟨Nat.lt_of_lt_of_le h.lt hb.size, (hb.block b h.lt hh).trans h.eq⟩
theorem Kept.cells {b : Nat} {w w1 : World} {us : List Value} (h : Kept b w w1) (hc : CellsAt w b 0 us) : CellsAt w1 b 0 us :=
  fun i x hi => (World.cell?_of_block (a := ⟨b, 0 + i, none⟩) h.eq).trans (hc i x hi)

end Go.Proofs.Ythhpjgdeehcgjaa
