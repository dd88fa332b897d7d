/-
  Texts joined: DrF, FnB, DrG.
-/
import Derived.Test.YtogaellhkjjeaaaPk4
import Derived.Test.YtogaellhkjjeaaaPk1
import Derived.Test.YtogaellhkjjeaaaPk3
import Derived.Test.YtogaellhkjjeaaaCont
/-
  What the laws of the fabric draw: a machine, and a loop of it.
-/
namespace Go.Proofs.Ytogaellhkjjeaaa
set_option linter.unusedVariables false
set_option linter.unusedSimpArgs false
open Go.RowKit

theorem MSt.rdo {w : World} {B g : Nat} {m : Mc} {S : Nat → Spot} (h : MSt w B g m S) : RdMo w B (.agg (mcV m.wd m.rk (S 1).v (S 2).v (S 3).v (S 4).v (S 5).v)) m :=
  fun wy hk hz => (h.keep (fun j q hq => hk q (h.sp.lt hq).1 (h.sp.lt hq).2)).val
set_option maxHeartbeats 4000000 in
set_option maxRecDepth 100000 in
theorem l11Draw_any {w : World} {gs : Nat} {K : Int} (hS : Src w gs K) (hK : K + 610 ≤ 1000000000) :
    Calls Try.prog 127 #[.pointer (some ⟨gs, 0, none⟩)] w (BentM w gs (K + 610)) := by
  have hgs := hS.lt
  have HS := Lib.hid hS
  have HR := Lib.hid (Bx.new w zeroM 29)
  clear hS
  go_enter Try.func127, Try.ntmps127
  go_wp2_with fail
  refine (one_any _ gs 8 K (HS.out.alloc _) (by omega)).mono ?_
  rintro e w1 ⟨b, rfl, hs1, ho1⟩
  have S1 := Lib.hid hs1
  have O1 := Lib.hid (((Only.refl gs (gs + 1) w).alloc (.cells zeroM.toArray 29)).trans ho1)
  have R1 := Lib.hid (HR.out.only ho1 (by omega))
  have hz1 : w.heap.size < w1.heap.size := R1.out.2.2
  clear hs1 ho1 HR HS
  rcases b
  · go_wp2_with fail
    refine (l07Draw_any (most := 30) S1.out (by omega) (by omega) (by omega)).mono ?_
    rintro e w2 ⟨m, S, g0, v, l, rfl, hok, hwd2, hM, -, -, -, hs2, ho2⟩
    have HV := Lib.hid (hM.rdo)
    obtain ⟨A1, c1, A2, c2, A3, c3, A4, c4, A5, c5, q1, q2, q3, q4, q5⟩ := hM.slices
    rw [q1, q2, q3, q4, q5] at HV
    rw [q1, q2, q3, q4, q5]
    have S2 := Lib.hid hs2
    have O2 := Lib.hid (O1.out.trans ho2)
    have hr2 := R1.out.only ho2 (by omega)
    have hb2 := (Below.refl w2.heap.size w2).alloc (Nat.le_refl _) (.cells (mcV m.wd m.rk (.slice A1 m.fr.length c1) (.slice A2 m.bk.length c2) (.slice A3 m.cs.length c3) (.slice A4 m.ls.length c4) (.slice A5 m.dr.length c5)) 29)
    have hr3 := hr2.below hb2 hr2.2.2
    obtain ⟨y0, y1, y2, y3, y4, y5, y6⟩ := CellsAt.seven hr3.1
    have yf := hr3.2.1
    have hz2 : w1.heap.size ≤ w2.heap.size := ho2.size
    have HOK := Lib.hid hok
    have hbx := Bx.new w2 [.int .i64 m.wd, .int .i64 m.rk, .slice A1 m.fr.length c1, .slice A2 m.bk.length c2, .slice A3 m.cs.length c3, .slice A4 m.ls.length c4, .slice A5 m.dr.length c5] 29
    obtain ⟨x0, x1, x2, x3, x4, x5, x6⟩ := CellsAt.seven hbx.1
    have hne : w.heap.size ≠ w2.heap.size := by omega
    clear hM hs2 ho2 q1 q2 q3 q4 q5 hok hr2 hr3 hbx
    go_wp2
    refine bodyPost_ret (v := .agg (mcV m.wd m.rk (.slice A1 m.fr.length c1) (.slice A2 m.bk.length c2) (.slice A3 m.cs.length c3) (.slice A4 m.ls.length c4) (.slice A5 m.dr.length c5))) (by simp [results, Try.results127, go_sem, y0, y1, y2, y3, y4, y5, y6, World.cell?_setCell_other]) rfl ?_
    refine ⟨m, _, rfl, RdMo.keep (RdMo.below (B' := w1.heap.size) HV.out (Nat.le_refl _) hb2) (by omega) (fun q hq _ => set7_heap _ _ _ _ _ _ _ _ _ _ (by omega)) (by simp), SmM.of (okM_iff.1 HOK.out), ?_, ?_⟩
    · exact ((((((((S2.out.below hb2 S2.out.lt).setNew hgs _ _).setNew hgs _ _).setNew hgs _ _).setNew hgs _ _).setNew hgs _ _).setNew hgs _ _).setNew hgs _ _).more (by omega) hK
    · exact (((((((O2.out.trans (Only.of_below hb2)).setNew (Nat.le_refl _) _ _).setNew (Nat.le_refl _) _ _).setNew (Nat.le_refl _) _ _).setNew (Nat.le_refl _) _ _).setNew (Nat.le_refl _) _ _).setNew (Nat.le_refl _) _ _).setNew (Nat.le_refl _) _ _
  · go_wp2_with fail
    refine (l07Bent_any S1.out (by omega)).mono ?_
    rintro e w2 ⟨m, v, rfl, hrd, hsm, hs2, ho2⟩
    obtain ⟨A1, c1, A2, c2, A3, c3, A4, c4, A5, c5, rfl⟩ := RdM.shape hrd.rd
    have HV := Lib.hid hrd
    have HSM := Lib.hid hsm
    have S2 := Lib.hid hs2
    have O2 := Lib.hid (O1.out.trans ho2)
    have hr2 := R1.out.only ho2 (by omega)
    obtain ⟨y0, y1, y2, y3, y4, y5, y6⟩ := CellsAt.seven hr2.1
    have yf := hr2.2.1
    clear hrd hsm hs2 ho2 hr2
    go_wp2
    refine bodyPost_ret (v := .agg (mcV m.wd m.rk (.slice A1 m.fr.length c1) (.slice A2 m.bk.length c2) (.slice A3 m.cs.length c3) (.slice A4 m.ls.length c4) (.slice A5 m.dr.length c5))) (by simp [results, Try.results127, go_sem, y0, y1, y2, y3, y4, y5, y6, World.cell?_setCell_other]) rfl ?_
    refine ⟨m, _, rfl, RdMo.keep (B := w1.heap.size) HV.out (by omega) (fun q hq _ => set7_heap _ _ _ _ _ _ _ _ _ _ (by omega)) (by simp), HSM.out, ?_, ?_⟩
    · exact (((((((S2.out.setNew hgs _ _).setNew hgs _ _).setNew hgs _ _).setNew hgs _ _).setNew hgs _ _).setNew hgs _ _).setNew hgs _ _).more (by omega) hK
    · exact ((((((O2.out.setNew (Nat.le_refl _) _ _).setNew (Nat.le_refl _) _ _).setNew (Nat.le_refl _) _ _).setNew (Nat.le_refl _) _ _).setNew (Nat.le_refl _) _ _).setNew (Nat.le_refl _) _ _).setNew (Nat.le_refl _) _ _
theorem RdB.up {w w' : World} {v : Value} (h : RdB w w.heap.size v) (hb : Below w.heap.size w w') : RdB w' w'.heap.size v := by
  obtain ⟨A, n, c, hv, hn, hc⟩ := h.keep (fun b hb' => hb.block b hb')
  refine ⟨A, n, c, hv, hn, fun k hk => ?_⟩
  obtain ⟨b, off, x, h1, h2, h3⟩ := hc k hk
  exact ⟨b, off, x, h1, Nat.lt_of_lt_of_le h2 hb.size, h3⟩
/-- A machine and a loop that were drawn. -/
def LoopD (w : World) (e : Ending) (w' : World) : Prop := ∃ m v k, e = .returned (.tuple #[v, .int .i64 k]) ∧ RdMo w' w.heap.size v m ∧ SmM m ∧ -1 ≤ k ∧ k ≤ 2000 ∧ Below w.heap.size w w'
set_option maxHeartbeats 4000000 in
set_option maxRecDepth 100000 in
theorem l11DrawLoop_any (w : World) (v0 : Value) (h : RdB w w.heap.size v0) : Calls Try.prog 60 #[v0] w (LoopD w) := by
  have HB := Lib.hid h
  have hbA := (Below.refl w.heap.size w).alloc (Nat.le_refl _) (.cells zeroM.toArray 29)
  have HBA := Lib.hid (h.up hbA)
  have HR := Lib.hid (Bx.new w zeroM 29)
  have HA := Lib.hid hbA
  clear h hbA
  go_enter Try.func60, Try.ntmps60
  go_wp2_with fail
  refine (l00From_any _ v0 HBA.out).mono ?_
  rintro e w1 ⟨rfl, hs1, hb1, hz1⟩
  rw [World.size_alloc] at hs1
  have S1 := Lib.hid hs1
  have B1 := Lib.hid (HA.out.trans (hb1.mono (by rw [World.size_alloc]; omega)))
  have R1 := Lib.hid (HR.out.below hb1 (by rw [World.size_alloc]; omega))
  rw [World.size_alloc] at hz1
  have hz1' : w1.heap.size = w.heap.size + 2 := by omega
  clear hs1 hb1 HA HBA HR hz1
  go_wp2_with fail
  refine (l11Draw_any S1.out (by omega)).mono ?_
  rintro e w2 ⟨m, v, rfl, hrd, hsm, hs2, ho2⟩
  obtain ⟨A1, c1, A2, c2, A3, c3, A4, c4, A5, c5, rfl⟩ := RdM.shape hrd.rd
  have hb2 := (Below.refl w2.heap.size w2).alloc (Nat.le_refl _) (.cells (mcV m.wd m.rk (.slice A1 m.fr.length c1) (.slice A2 m.bk.length c2) (.slice A3 m.cs.length c3) (.slice A4 m.ls.length c4) (.slice A5 m.dr.length c5)) 29)
  have V2 := Lib.hid (hrd.below (Nat.le_refl _) hb2)
  have HSM := Lib.hid hsm
  have S2 := Lib.hid (hs2.below hb2 hs2.lt)
  have hb12 := (ho2.below (B := w.heap.size) (by omega) (by omega)).trans (hb2.mono (by have := ho2.size; omega))
  have B2 := Lib.hid (B1.out.trans hb12)
  have hr2 := R1.out.only ho2 (by omega)
  have R2 := Lib.hid (hr2.below hb2 hr2.2.2)
  have hx2 := Lib.hid (Bx.new w2 [.int .i64 m.wd, .int .i64 m.rk, .slice A1 m.fr.length c1, .slice A2 m.bk.length c2, .slice A3 m.cs.length c3, .slice A4 m.ls.length c4, .slice A5 m.dr.length c5] 29)
  have hl1 : m.ls.length ≤ 1000 := hsm.ls
  have hz2 : w1.heap.size ≤ w2.heap.size := ho2.size
  clear hrd hsm hs2 hb2 hb12 hr2 ho2 S1 B1 R1
  go_wp2_with fail
  generalize w2.alloc (.cells (mcV m.wd m.rk (.slice A1 m.fr.length c1) (.slice A2 m.bk.length c2) (.slice A3 m.cs.length c3) (.slice A4 m.ls.length c4) (.slice A5 m.dr.length c5)) 29) = wA at *
  generalize w2.heap.size = gm at *
  refine (pick_any _ (w.heap.size + 1) _ 610 S2.out (by omega)).mono ?_
  rintro e w3 ⟨k, rfl, hk, hs3, ho3⟩
  have hk0 : 0 ≤ k := hk.1
  have hk1 : k ≤ 2000 := by
    by_cases h1 : 1 < (m.ls.length : Int) + 1
    · have := hk.2.1 h1; omega
    · have := hk.2.2 (by omega); omega
  have S3 := Lib.hid hs3
  have B3 := Lib.hid (B2.out.trans (ho3.below (B := w.heap.size) (by omega) (by have := R2.out.2.2; omega)))
  have R3 := Lib.hid (R2.out.only ho3 (by omega))
  have X3 := Lib.hid (hx2.out.only ho3 (by omega))
  have V3 := Lib.hid (V2.out.only (Nat.le_refl _) ho3 (by omega))
  clear hk hs3 ho3 S2 B2 R2 hx2 V2
  go_wp2_with fail
  refine (one_any _ (w.heap.size + 1) 12 (610 + 2) S3.out (by omega)).mono ?_
  rintro e w4 ⟨b, rfl, hs4, ho4⟩
  have B4 := Lib.hid (B3.out.trans (ho4.below (B := w.heap.size) (by omega) (by have := R3.out.2.2; omega)))
  have R4 := R3.out.only ho4 (by omega)
  have X4 := X3.out.only ho4 (by omega)
  have V4 := Lib.hid (V3.out.only (Nat.le_refl _) ho4 (by omega))
  obtain ⟨y0, y1, y2, y3, y4, y5, y6⟩ := CellsAt.seven R4.1
  have yf := R4.2.1
  obtain ⟨x0, x1, x2, x3, x4, x5, x6⟩ := CellsAt.seven X4.1
  clear hs4 ho4 S3 B3 R3 X3 V3 R4 X4
  have hne : w.heap.size ≠ gm := by omega
  rcases b
  · go_wp2
    refine bodyPost_ret (v := .tuple #[.agg (mcV m.wd m.rk (.slice A1 m.fr.length c1) (.slice A2 m.bk.length c2) (.slice A3 m.cs.length c3) (.slice A4 m.ls.length c4) (.slice A5 m.dr.length c5)), .int .i64 k]) (by simp [results, Try.results60, go_sem, y0, y1, y2, y3, y4, y5, y6, World.cell?_setCell_other]) rfl ?_
    refine ⟨m, _, k, rfl, V4.out.keep (by omega) (fun q hq _ => set7_heap _ _ _ _ _ _ _ _ _ _ (by omega)) (by simp), HSM.out, by omega, hk1, ?_⟩
    exact ((((((B4.out.setCell (Nat.le_refl _) _).setCell (Nat.le_refl _) _).setCell (Nat.le_refl _) _).setCell (Nat.le_refl _) _).setCell (Nat.le_refl _) _).setCell (Nat.le_refl _) _).setCell (Nat.le_refl _) _
  · go_wp2
    refine bodyPost_ret (v := .tuple #[.agg (mcV m.wd m.rk (.slice A1 m.fr.length c1) (.slice A2 m.bk.length c2) (.slice A3 m.cs.length c3) (.slice A4 m.ls.length c4) (.slice A5 m.dr.length c5)), .int .i64 (-1)]) (by simp [results, Try.results60, go_sem, y0, y1, y2, y3, y4, y5, y6, World.cell?_setCell_other]) rfl ?_
    refine ⟨m, _, -1, rfl, V4.out.keep (by omega) (fun q hq _ => set7_heap _ _ _ _ _ _ _ _ _ _ (by omega)) (by simp), HSM.out, by omega, by omega, ?_⟩
    exact ((((((B4.out.setCell (Nat.le_refl _) _).setCell (Nat.le_refl _) _).setCell (Nat.le_refl _) _).setCell (Nat.le_refl _) _).setCell (Nat.le_refl _) _).setCell (Nat.le_refl _) _).setCell (Nat.le_refl _) _
set_option maxHeartbeats 4000000 in
theorem DrawYarnNeighbours_any (w : World) (v0 : Value) (h : RdB w w.heap.size v0) : Calls Try.prog 13 #[v0] w (LoopD w) := by
  have hbA := (Below.refl w.heap.size w).alloc (Nat.le_refl _) (.cells zeroM.toArray 29)
  have HBA := Lib.hid (h.up hbA)
  have HR := Lib.hid (Bx.new w zeroM 29)
  have HA := Lib.hid hbA
  clear h hbA
  go_enter Try.func13, Try.ntmps13
  go_wp2_with fail
  refine (l11DrawLoop_any _ v0 HBA.out).mono ?_
  rintro e w1 ⟨m, v, k, rfl, hrd, hsm, hk0, hk1, hb1⟩
  obtain ⟨A1, c1, A2, c2, A3, c3, A4, c4, A5, c5, rfl⟩ := RdM.shape hrd.rd
  rw [World.size_alloc] at hrd
  have V1 := Lib.hid hrd
  have HSM := Lib.hid hsm
  have B1 := Lib.hid (HA.out.trans (hb1.mono (by rw [World.size_alloc]; omega)))
  have hr := HR.out.below hb1 (by rw [World.size_alloc]; omega)
  obtain ⟨y0, y1, y2, y3, y4, y5, y6⟩ := CellsAt.seven hr.1
  have yf := hr.2.1
  clear hrd hsm hb1 hr HA HBA HR
  go_wp2
  refine bodyPost_ret (v := .tuple #[.agg (mcV m.wd m.rk (.slice A1 m.fr.length c1) (.slice A2 m.bk.length c2) (.slice A3 m.cs.length c3) (.slice A4 m.ls.length c4) (.slice A5 m.dr.length c5)), .int .i64 k]) (by simp [results, Try.results13, go_sem, y0, y1, y2, y3, y4, y5, y6, World.cell?_setCell_other]) rfl ?_
  refine ⟨m, _, k, rfl, V1.out.keep (by omega) (fun q hq _ => set7_heap _ _ _ _ _ _ _ _ _ _ (by omega)) (by simp), HSM.out, hk0, hk1, ?_⟩
  exact ((((((B1.out.setCell (Nat.le_refl _) _).setCell (Nat.le_refl _) _).setCell (Nat.le_refl _) _).setCell (Nat.le_refl _) _).setCell (Nat.le_refl _) _).setCell (Nat.le_refl _) _).setCell (Nat.le_refl _) _
set_option maxHeartbeats 4000000 in
theorem DrawChildrenOf_any (w : World) (v0 : Value) (h : RdB w w.heap.size v0) : Calls Try.prog 16 #[v0] w (LoopD w) := by
  have hbA := (Below.refl w.heap.size w).alloc (Nat.le_refl _) (.cells zeroM.toArray 29)
  have HBA := Lib.hid (h.up hbA)
  have HR := Lib.hid (Bx.new w zeroM 29)
  have HA := Lib.hid hbA
  clear h hbA
  go_enter Try.func16, Try.ntmps16
  go_wp2_with fail
  refine (l11DrawLoop_any _ v0 HBA.out).mono ?_
  rintro e w1 ⟨m, v, k, rfl, hrd, hsm, hk0, hk1, hb1⟩
  obtain ⟨A1, c1, A2, c2, A3, c3, A4, c4, A5, c5, rfl⟩ := RdM.shape hrd.rd
  rw [World.size_alloc] at hrd
  have V1 := Lib.hid hrd
  have HSM := Lib.hid hsm
  have B1 := Lib.hid (HA.out.trans (hb1.mono (by rw [World.size_alloc]; omega)))
  have hr := HR.out.below hb1 (by rw [World.size_alloc]; omega)
  obtain ⟨y0, y1, y2, y3, y4, y5, y6⟩ := CellsAt.seven hr.1
  have yf := hr.2.1
  clear hrd hsm hb1 hr HA HBA HR
  go_wp2
  refine bodyPost_ret (v := .tuple #[.agg (mcV m.wd m.rk (.slice A1 m.fr.length c1) (.slice A2 m.bk.length c2) (.slice A3 m.cs.length c3) (.slice A4 m.ls.length c4) (.slice A5 m.dr.length c5)), .int .i64 k]) (by simp [results, Try.results16, go_sem, y0, y1, y2, y3, y4, y5, y6, World.cell?_setCell_other]) rfl ?_
  refine ⟨m, _, k, rfl, V1.out.keep (by omega) (fun q hq _ => set7_heap _ _ _ _ _ _ _ _ _ _ (by omega)) (by simp), HSM.out, hk0, hk1, ?_⟩
  exact ((((((B1.out.setCell (Nat.le_refl _) _).setCell (Nat.le_refl _) _).setCell (Nat.le_refl _) _).setCell (Nat.le_refl _) _).setCell (Nat.le_refl _) _).setCell (Nat.le_refl _) _).setCell (Nat.le_refl _) _

end Go.Proofs.Ytogaellhkjjeaaa

/-
  Small contracts of the laws over drawn machines.
-/
namespace Go.Proofs.Ytogaellhkjjeaaa
set_option linter.unusedVariables false
set_option linter.unusedSimpArgs false
open Go.ChangeShapes Go.WideShapes Go.ChangeAt Go.RowKit Go.Deep

theorem ok_yarn {m : Mc} {j : Nat} {x : Inf} (h : okM m = true) (hx : m.ls[j]? = some x) : 1 ≤ x.y ∧ x.y ≤ 4 := by
  have h1 := (okM_iff.1 h).inf j x hx
  unfold okInf headI at h1
  simp only [Bool.and_eq_true] at h1
  exact inB_iff.1 h1.2.1.1
theorem RdM.ls_ {w : World} {B : Nat} {m : Mc} {wd rk F G C L D : Value} (h : RdM w B (.agg #[wd, rk, F, G, C, L, D]) m) : RdIs w B L m.ls := by
  obtain ⟨f, b, cs, ls, d, e, h1, h2, h3, h4, h5, h6⟩ := h
  injection e with e
  simp only [Array.mk.injEq, List.cons.injEq] at e
  obtain ⟨-, -, -, -, -, rfl, -⟩ := e
  exact h4
set_option maxHeartbeats 1000000 in
theorem b10Has_s (v : Value) (l : List Int) (x : Int) (w : World) (hl : RdI w w.heap.size v l) :
    Calls Try.prog 22 #[v, .int .i64 x] w fun e w' => e = .returned (.bool (l.contains x)) ∧ w = w' := by
  obtain ⟨A, cp, rfl⟩ := hl.len
  have hbig := hl.len_le
  have HL := Lib.hid hl
  clear hl
  generalize hR : l.contains x = R
  have HR := Lib.hid hR
  clear hR
  generalize hln : l.length = n at *
  have HLN := Lib.hid hln
  clear hln
  go_enter Try.func22, Try.ntmps22
  go_wp2
  go_loop [5] (fun i => ∃ k : Nat, k ≤ n ∧ i = .int .i64 k ∧ Hid (R = (l.drop k).contains x)) (fun i => n - (intOf i).toNat)
  case atStart => exact ⟨0, Nat.zero_le _, rfl, HR.out.symm⟩
  case round =>
    obtain ⟨k, hk, rfl, hd⟩ := hrel
    by_cases hlt : k < n
    · obtain ⟨b, off, y, rfl, hbb, hlk, hc⟩ := HL.out.at_ hlt
      by_cases hy : y = x
      · have HT := Lib.hid (show R = true by rw [hd.out, drop_of_get hlk]; simp [hy])
        subst hy
        clear hlk hd
        go_wp2
        go_ret
        exact ⟨ret_bool HT.out.symm, by trivial⟩
      · have HT := Lib.hid (show R = (l.drop (k + 1)).contains x by rw [hd.out, drop_of_get hlk]; simp [show ¬ x = y from fun e => hy e.symm])
        have e0 : (y == x) = false := by simpa using hy
        clear hlk hd hy
        go_wp2
        go_round
        case rel => exact ⟨k + 1, by omega, by go_num, HT.out⟩
        case measure => simp [intOf]; omega
    · have HT := Lib.hid (show R = false by rw [hd.out, List.drop_of_length_le (by have := HLN.out; omega)]; rfl)
      go_wp2
      go_ret
      exact ⟨ret_bool HT.out.symm, by trivial⟩
set_option maxHeartbeats 4000000 in
set_option maxRecDepth 100000 in
theorem specValid_any (v : Value) (m : Mc) (w : World) (hl : RdM w w.heap.size v m) (hf : FitM m) :
    Calls Try.prog 18 #[v] w fun e w' => e = .returned (.bool (okM m)) ∧ Below w.heap.size w w' := by
  have hdr := hf.dr
  have hl0 := hl
  obtain ⟨f, b, cs, ls, d, rfl, h1, h2, h3, h4, h5, h6⟩ := hl
  obtain ⟨AF, cF, rfl⟩ := RdN.shape h1
  obtain ⟨AG, cG, rfl⟩ := RdN.shape h2
  obtain ⟨AC, cC, rfl⟩ := RdS.lens h3
  obtain ⟨AI, cI, rfl⟩ := RdN.shape h4
  obtain ⟨AD, cD, rfl⟩ := RdI.len h5
  have BW := Lib.hid (show Below w.heap.size w (w.alloc (.cells #[.int .i64 m.wd, .int .i64 m.rk, .slice AF m.fr.length cF, .slice AG m.bk.length cG, .slice AC m.cs.length cC, .slice AI m.ls.length cI, .slice AD m.dr.length cD] 29)) from (Below.refl _ _).alloc (Nat.le_refl _) _)
  have HP := Lib.hid (RdP.box (T := 29) h1 h2 h3 h4 h5 h6)
  have HM := Lib.hid (hl0.up BW.out BW.out.size)
  clear h1 h2 h3 h4 h5 h6 hl0
  go_enter Try.func18, Try.ntmps18
  go_wp2_with fail
  refine (l07Ok_p m _ _ HP.out hdr).mono ?_
  rintro e w1 ⟨rfl, hb⟩
  have HB := Lib.hid (BW.out.trans (hb.mono BW.out.size))
  clear hb
  go_wp2
  go_ret
  exact ⟨rfl, HB.out⟩

end Go.Proofs.Ytogaellhkjjeaaa

/-
  What the laws of unravelling draw: a machine and a loop, mostly one on a needle.
-/
namespace Go.Proofs.Ytogaellhkjjeaaa
set_option linter.unusedVariables false
set_option linter.unusedSimpArgs false
open Go.RowKit

theorem RdP.of_val {w : World} {g : Nat} {m : Mc} {F G C L D : Value} (hx : CellsAt w g 0 [.int .i64 m.wd, .int .i64 m.rk, F, G, C, L, D]) (hr : RdM w w.heap.size (.agg #[.int .i64 m.wd, .int .i64 m.rk, F, G, C, L, D]) m) : RdP w g m := by
  obtain ⟨f, b, cs, ls, d, e, h1, h2, h3, h4, h5, h6⟩ := hr
  injection e with e
  simp only [Array.mk.injEq, List.cons.injEq] at e
  obtain ⟨-, -, rfl, rfl, rfl, rfl, rfl, -⟩ := e
  exact ⟨_, _, _, _, _, hx, h1, h2, h3, h4, h5, h6⟩
set_option maxHeartbeats 4000000 in
set_option maxRecDepth 100000 in
theorem l12DrawLoop_any (w : World) (v0 : Value) (h : RdB w w.heap.size v0) : Calls Try.prog 70 #[v0] w (LoopD w) := by
  have HB := Lib.hid h
  have hbA := (Below.refl w.heap.size w).alloc (Nat.le_refl _) (.cells zeroM.toArray 29)
  have HBA := Lib.hid (h.up hbA)
  have HR := Lib.hid (Bx.new w zeroM 29)
  have HA := Lib.hid hbA
  clear h hbA
  go_enter Try.func70, Try.ntmps70
  go_wp2_with fail
  refine (l00From_any _ v0 HBA.out).mono ?_
  rintro e w1 ⟨rfl, hs1, hb1, hz1⟩
  rw [World.size_alloc] at hs1
  have S1 := Lib.hid hs1
  have B1 := Lib.hid (HA.out.trans (hb1.mono (by rw [World.size_alloc]; omega)))
  have R1 := Lib.hid (HR.out.below hb1 (by rw [World.size_alloc]; omega))
  rw [World.size_alloc] at hz1
  have hz1' : w1.heap.size = w.heap.size + 2 := by omega
  clear hs1 hb1 HA HBA HR hz1
  go_wp2_with fail
  refine (l11Draw_any S1.out (by omega)).mono ?_
  rintro e w2 ⟨m, v, rfl, hrd, hsm, hs2, ho2⟩
  obtain ⟨A1, c1, A2, c2, A3, c3, A4, c4, A5, c5, rfl⟩ := RdM.shape hrd.rd
  have hb2 := (Below.refl w2.heap.size w2).alloc (Nat.le_refl _) (.cells (mcV m.wd m.rk (.slice A1 m.fr.length c1) (.slice A2 m.bk.length c2) (.slice A3 m.cs.length c3) (.slice A4 m.ls.length c4) (.slice A5 m.dr.length c5)) 29)
  have V2 := Lib.hid (hrd.below (Nat.le_refl _) hb2)
  have HSM := Lib.hid hsm
  have S2 := Lib.hid (hs2.below hb2 hs2.lt)
  have hb12 := (ho2.below (B := w.heap.size) (by omega) (by omega)).trans (hb2.mono (by have := ho2.size; omega))
  have B2 := Lib.hid (B1.out.trans hb12)
  have hr2 := R1.out.only ho2 (by omega)
  have R2 := Lib.hid (hr2.below hb2 hr2.2.2)
  have hx2 := Lib.hid (Bx.new w2 [.int .i64 m.wd, .int .i64 m.rk, .slice A1 m.fr.length c1, .slice A2 m.bk.length c2, .slice A3 m.cs.length c3, .slice A4 m.ls.length c4, .slice A5 m.dr.length c5] 29)
  have hl1 : m.ls.length ≤ 1000 := hsm.ls
  have hz2 : w1.heap.size ≤ w2.heap.size := ho2.size
  clear hrd hsm hs2 hb2 hb12 hr2 ho2 S1 B1 R1
  go_wp2_with fail
  generalize w2.alloc (.cells (mcV m.wd m.rk (.slice A1 m.fr.length c1) (.slice A2 m.bk.length c2) (.slice A3 m.cs.length c3) (.slice A4 m.ls.length c4) (.slice A5 m.dr.length c5)) 29) = wA at *
  generalize w2.heap.size = gm at *
  refine (pick_any _ (w.heap.size + 1) _ 610 S2.out (by omega)).mono ?_
  rintro e w3 ⟨k, rfl, hk, hs3, ho3⟩
  have hk0 : 0 ≤ k := hk.1
  have hk1 : k ≤ 1002 := by
    have := hk.2.1 (by omega); omega
  have X2 := hx2
  clear hx2 hk
  have S3 := Lib.hid hs3
  have B3 := Lib.hid (B2.out.trans (Only.below (B := w.heap.size) ho3 (by omega) (by have := R2.out.2.2; omega)))
  have R3 := Lib.hid (R2.out.only ho3 (by omega))
  have X3 := Lib.hid (X2.out.only ho3 (by omega))
  have V3 := Lib.hid (V2.out.only (Nat.le_refl _) ho3 (by omega))
  clear S2 B2 R2 X2 V2
  clear ho3 hs3
  have hne : w.heap.size ≠ gm := by omega
  have HQ := Lib.hid (l07Ok_p m gm w3 (RdP.of_val X3.out.1 V3.out.rd) HSM.out.fit.dr)
  cases hok : okM m
  · rw [hok] at HQ
    clear hok
    go_wp2_with fail
    refine HQ.out.mono ?_
    rintro e w4 ⟨rfl, hb4⟩
    have S9 := Lib.hid (Src.below S3.out hb4 S3.out.lt)
    have B9 := Lib.hid (B3.out.trans (Below.mono hb4 B3.out.size))
    have R9 := Lib.hid (R3.out.below hb4 R3.out.2.2)
    have X9 := Lib.hid (X3.out.below hb4 X3.out.2.2)
    have V9 := Lib.hid (V3.out.below (Nat.le_refl _) hb4)
    clear S3 B3 R3 X3 V3
    clear hb4 HQ
    obtain ⟨y0, y1, y2, y3, y4, y5, y6⟩ := CellsAt.seven R9.out.1
    have yf := R9.out.2.1
    obtain ⟨x0, x1, x2, x3, x4, x5, x6⟩ := CellsAt.seven X9.out.1
    go_wp2
    refine bodyPost_ret (v := .tuple #[.agg (mcV m.wd m.rk (.slice A1 m.fr.length c1) (.slice A2 m.bk.length c2) (.slice A3 m.cs.length c3) (.slice A4 m.ls.length c4) (.slice A5 m.dr.length c5)), .int .i64 (k - 1)]) (by simp [results, Try.results70, go_sem, y0, y1, y2, y3, y4, y5, y6, World.cell?_setCell_other]) rfl ?_
    refine ⟨m, _, (k - 1), rfl, V9.out.keep (by omega) (fun q hq _ => set7_heap _ _ _ _ _ _ _ _ _ _ (by omega)) (by simp), HSM.out, by omega, by omega, ?_⟩
    exact ((((((B9.out.setCell (Nat.le_refl _) _).setCell (Nat.le_refl _) _).setCell (Nat.le_refl _) _).setCell (Nat.le_refl _) _).setCell (Nat.le_refl _) _).setCell (Nat.le_refl _) _).setCell (Nat.le_refl _) _
  · rw [hok] at HQ
    have HOK := Lib.hid hok
    clear hok
    go_wp2_with fail
    refine HQ.out.mono ?_
    rintro e w4 ⟨rfl, hb4⟩
    have S4 := Lib.hid (Src.below S3.out hb4 S3.out.lt)
    have B4 := Lib.hid (B3.out.trans (Below.mono hb4 B3.out.size))
    have R4 := Lib.hid (R3.out.below hb4 R3.out.2.2)
    have X4 := Lib.hid (X3.out.below hb4 X3.out.2.2)
    have V4 := Lib.hid (V3.out.below (Nat.le_refl _) hb4)
    clear S3 B3 R3 X3 V3
    clear hb4 HQ
    go_wp2_with fail
    refine (one_any _ (w.heap.size + 1) 4 (610 + 2) S4.out (by omega)).mono ?_
    rintro e w5 ⟨b, rfl, hs5, ho5⟩
    have S5 := Lib.hid hs5
    have B5 := Lib.hid (B4.out.trans (Only.below (B := w.heap.size) ho5 (by omega) (by have := R4.out.2.2; omega)))
    have R5 := Lib.hid (R4.out.only ho5 (by omega))
    have X5 := Lib.hid (X4.out.only ho5 (by omega))
    have V5 := Lib.hid (V4.out.only (Nat.le_refl _) ho5 (by omega))
    clear S4 B4 R4 X4 V4
    clear ho5 hs5
    rcases b
    · have HQ := Lib.hid (l07Live_any m gm w5 (RdP.of_val X5.out.1 V5.out.rd) HOK.out)
      go_wp2_with fail
      refine HQ.out.mono ?_
      rintro e w6 ⟨v6, rfl, ho6, hb6⟩
      have hw5 : w.heap.size + 1 < w5.heap.size := S5.out.lt
      have S6 := Lib.hid (Src.below S5.out hb6 S5.out.lt)
      have B6 := Lib.hid (B5.out.trans (Below.mono hb6 B5.out.size))
      have R6 := Lib.hid (R5.out.below hb6 R5.out.2.2)
      have X6 := Lib.hid (X5.out.below hb6 X5.out.2.2)
      have V6 := Lib.hid (V5.out.below (Nat.le_refl _) hb6)
      clear S5 B5 R5 X5 V5
      have HR := Lib.hid (RdI.of_own ho6)
      obtain ⟨A6, c6, rfl, hn6, hc6⟩ := ho6.cells
      have hG : ∀ A n c, Value.slice A6 (liveL m).length c6 = .slice A n c → A ≠ none → ∃ b o, A = some ⟨b, o, none⟩ ∧ b ≠ w.heap.size + 1 ∨ (liveL m).length = 0 := fun A n c e h => by
        by_cases h0 : (liveL m).length = 0
        · exact ⟨0, 0, .inr h0⟩
        · obtain ⟨g, e2, h1, -⟩ := hc6 0 (by omega)
          injection e with e _ _
          exact ⟨g, 0, .inl ⟨by rw [← e, e2], by omega⟩⟩
      have HG := Lib.hid hG
      have HLR := Lib.hid (fun x (hx : x ∈ liveL m) => liveL_rng HOK.out hx)
      have hl1 : m.ls.length ≤ 300 := (okM_iff.1 HOK.out).ls
      clear hb6 ho6 hc6 hG HQ
      by_cases h0 : (liveL m).length = 0
      · have h0' : ¬ (0 : Int) < ((liveL m).length : Int) := by omega
        have S9 := S6
        have B9 := B6
        have R9 := R6
        have X9 := X6
        have V9 := V6
        clear h0 HG HR HLR S6 B6 R6 X6 V6
        obtain ⟨y0, y1, y2, y3, y4, y5, y6⟩ := CellsAt.seven R9.out.1
        have yf := R9.out.2.1
        obtain ⟨x0, x1, x2, x3, x4, x5, x6⟩ := CellsAt.seven X9.out.1
        go_wp2
        refine bodyPost_ret (v := .tuple #[.agg (mcV m.wd m.rk (.slice A1 m.fr.length c1) (.slice A2 m.bk.length c2) (.slice A3 m.cs.length c3) (.slice A4 m.ls.length c4) (.slice A5 m.dr.length c5)), .int .i64 (k - 1)]) (by simp [results, Try.results70, go_sem, y0, y1, y2, y3, y4, y5, y6, World.cell?_setCell_other]) rfl ?_
        refine ⟨m, _, (k - 1), rfl, V9.out.keep (by omega) (fun q hq _ => set7_heap _ _ _ _ _ _ _ _ _ _ (by omega)) (by simp), HSM.out, by omega, by omega, ?_⟩
        exact ((((((B9.out.setCell (Nat.le_refl _) _).setCell (Nat.le_refl _) _).setCell (Nat.le_refl _) _).setCell (Nat.le_refl _) _).setCell (Nat.le_refl _) _).setCell (Nat.le_refl _) _).setCell (Nat.le_refl _) _
      · have h0' : (0 : Int) < ((liveL m).length : Int) := by omega
        go_wp2_with fail
        refine (among_any w6 (w.heap.size + 1) (liveL m) _ (610 + 2 + 2) S6.out (by omega) HR.out (fun A n c e h => by obtain ⟨b, o, h1 | h1⟩ := HG.out A n c e h; exact ⟨b, o, h1⟩; exact absurd h1 h0) (by omega)).mono ?_
        rintro e w7 ⟨x, rfl, hx, hs7, ho7⟩
        have S9 := Lib.hid hs7
        have B9 := Lib.hid (B6.out.trans (Only.below (B := w.heap.size) ho7 (by omega) (by have := R6.out.2.2; omega)))
        have R9 := Lib.hid (R6.out.only ho7 (by omega))
        have X9 := Lib.hid (X6.out.only ho7 (by omega))
        have V9 := Lib.hid (V6.out.only (Nat.le_refl _) ho7 (by omega))
        clear S6 B6 R6 X6 V6
        obtain ⟨hx0, hx1⟩ := HLR.out x hx
        clear ho7 hs7 hx h0 h0' HG HR HLR
        obtain ⟨y0, y1, y2, y3, y4, y5, y6⟩ := CellsAt.seven R9.out.1
        have yf := R9.out.2.1
        obtain ⟨x0, x1, x2, x3, x4, x5, x6⟩ := CellsAt.seven X9.out.1
        go_wp2
        refine bodyPost_ret (v := .tuple #[.agg (mcV m.wd m.rk (.slice A1 m.fr.length c1) (.slice A2 m.bk.length c2) (.slice A3 m.cs.length c3) (.slice A4 m.ls.length c4) (.slice A5 m.dr.length c5)), .int .i64 x]) (by simp [results, Try.results70, go_sem, y0, y1, y2, y3, y4, y5, y6, World.cell?_setCell_other]) rfl ?_
        refine ⟨m, _, x, rfl, V9.out.keep (by omega) (fun q hq _ => set7_heap _ _ _ _ _ _ _ _ _ _ (by omega)) (by simp), HSM.out, by omega, by omega, ?_⟩
        exact ((((((B9.out.setCell (Nat.le_refl _) _).setCell (Nat.le_refl _) _).setCell (Nat.le_refl _) _).setCell (Nat.le_refl _) _).setCell (Nat.le_refl _) _).setCell (Nat.le_refl _) _).setCell (Nat.le_refl _) _
    · have S9 := S5
      have B9 := B5
      have R9 := R5
      have X9 := X5
      have V9 := V5
      clear S5 B5 R5 X5 V5
      obtain ⟨y0, y1, y2, y3, y4, y5, y6⟩ := CellsAt.seven R9.out.1
      have yf := R9.out.2.1
      obtain ⟨x0, x1, x2, x3, x4, x5, x6⟩ := CellsAt.seven X9.out.1
      go_wp2
      refine bodyPost_ret (v := .tuple #[.agg (mcV m.wd m.rk (.slice A1 m.fr.length c1) (.slice A2 m.bk.length c2) (.slice A3 m.cs.length c3) (.slice A4 m.ls.length c4) (.slice A5 m.dr.length c5)), .int .i64 (k - 1)]) (by simp [results, Try.results70, go_sem, y0, y1, y2, y3, y4, y5, y6, World.cell?_setCell_other]) rfl ?_
      refine ⟨m, _, (k - 1), rfl, V9.out.keep (by omega) (fun q hq _ => set7_heap _ _ _ _ _ _ _ _ _ _ (by omega)) (by simp), HSM.out, by omega, by omega, ?_⟩
      exact ((((((B9.out.setCell (Nat.le_refl _) _).setCell (Nat.le_refl _) _).setCell (Nat.le_refl _) _).setCell (Nat.le_refl _) _).setCell (Nat.le_refl _) _).setCell (Nat.le_refl _) _).setCell (Nat.le_refl _) _
set_option maxHeartbeats 4000000 in
theorem DrawRunOf_any (w : World) (v0 : Value) (h : RdB w w.heap.size v0) : Calls Try.prog 23 #[v0] w (LoopD w) := by
  have hbA := (Below.refl w.heap.size w).alloc (Nat.le_refl _) (.cells zeroM.toArray 29)
  have HBA := Lib.hid (h.up hbA)
  have HR := Lib.hid (Bx.new w zeroM 29)
  have HA := Lib.hid hbA
  clear h hbA
  go_enter Try.func23, Try.ntmps23
  go_wp2_with fail
  refine (l12DrawLoop_any _ v0 HBA.out).mono ?_
  rintro e w1 ⟨m, v, k, rfl, hrd, hsm, hk0, hk1, hb1⟩
  obtain ⟨A1, c1, A2, c2, A3, c3, A4, c4, A5, c5, rfl⟩ := RdM.shape hrd.rd
  rw [World.size_alloc] at hrd
  have V1 := Lib.hid hrd
  have HSM := Lib.hid hsm
  have B1 := Lib.hid (HA.out.trans (hb1.mono (by rw [World.size_alloc]; omega)))
  have hr := HR.out.below hb1 (by rw [World.size_alloc]; omega)
  obtain ⟨y0, y1, y2, y3, y4, y5, y6⟩ := CellsAt.seven hr.1
  have yf := hr.2.1
  clear hrd hsm hb1 hr HA HBA HR
  go_wp2
  refine bodyPost_ret (v := .tuple #[.agg (mcV m.wd m.rk (.slice A1 m.fr.length c1) (.slice A2 m.bk.length c2) (.slice A3 m.cs.length c3) (.slice A4 m.ls.length c4) (.slice A5 m.dr.length c5)), .int .i64 k]) (by simp [results, Try.results23, go_sem, y0, y1, y2, y3, y4, y5, y6, World.cell?_setCell_other]) rfl ?_
  refine ⟨m, _, k, rfl, V1.out.keep (by omega) (fun q hq _ => set7_heap _ _ _ _ _ _ _ _ _ _ (by omega)) (by simp), HSM.out, hk0, hk1, ?_⟩
  exact ((((((B1.out.setCell (Nat.le_refl _) _).setCell (Nat.le_refl _) _).setCell (Nat.le_refl _) _).setCell (Nat.le_refl _) _).setCell (Nat.le_refl _) _).setCell (Nat.le_refl _) _).setCell (Nat.le_refl _) _

end Go.Proofs.Ytogaellhkjjeaaa
