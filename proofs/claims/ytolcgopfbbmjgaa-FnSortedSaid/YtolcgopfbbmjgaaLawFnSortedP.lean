/-
  Proved: transfers that are ordered within their passes lead to the same machine in as many passes, and a second ordering changes nothing, whatever the bytes are: the law answers true. No condition.
-/
import Derived.Test.YtolcgopfbbmjgaaPk6
import Derived.Test.YtolcgopfbbmjgaaPk14
import Derived.Test.YtolcgopfbbmjgaaPk13
import Derived.Test.YtolcgopfbbmjgaaPk7
import Derived.Test.YtolcgopfbbmjgaaKept
namespace Go.Proofs.Ytolcgopfbbmjgaa
set_option linter.unusedVariables false
set_option linter.unusedSimpArgs false
open Go.ChangeShapes Go.WideShapes Go.ChangeAt Go.RowKit Go.Deep

theorem a2Long_n (A : Option Addr) (n c : Nat) (hn : n ≤ 9223372036854775807) (b : Bool) (hb : decide ((3000 : Int) < (n : Int)) = b) (w : World) : Calls Try.prog 12 #[.slice A n c, .slice none 0 0] w fun e w' => e = .returned (.bool b) ∧ w = w' := by
  cases b
  all_goals
    go_enter Try.func12, Try.ntmps12
    go_wp2
    go_ret
    exact ⟨ret_bool (by simp_all), rfl⟩
set_option maxHeartbeats 16000000 in
set_option maxRecDepth 100000 in
theorem FnSorted.core (v0 : Value) (W : World) (hb : RdB W W.heap.size v0) : Calls Try.prog 4 #[v0] W fun e W' => e = .returned (.bool true) ∧ Below W.heap.size W W' := by
  have HB := Lib.hid hb
  obtain ⟨A0, n0, c0, rfl, hn0, -⟩ := hb
  by_cases hl0 : (3000 : Int) < (n0 : Int)
  · have hd0 := Lib.hid (show decide ((3000 : Int) < (n0 : Int)) = true by simpa using hl0)
    clear hl0
    go_enter Try.func4, Try.ntmps4
    go_wp2_with fail
    refine (a2Long_n _ _ _ hn0 _ hd0.out _).mono ?_
    rintro e w1 ⟨rfl, rfl⟩
    go_wp2
    go_ret
    exact ⟨rfl, Below.refl _ _⟩
  have hd0 := Lib.hid (show decide ((3000 : Int) < (n0 : Int)) = false by simpa using hl0)
  clear hl0
  go_enter Try.func4, Try.ntmps4
  go_wp2_with fail
  refine (a2Long_n _ _ _ hn0 _ hd0.out _).mono ?_
  rintro e w1 ⟨rfl, rfl⟩
  go_wp2_with fail
  refine (a2Prog_any _ W HB.out).mono ?_
  rintro e w1 ⟨n, v, l, m, rfl, hr, hl, hb1⟩
  have HRU := Lib.hid hr
  have HL1 := Lib.hid hl
  have HB1 := Lib.hid hb1
  obtain ⟨hop1, hop2⟩ := hr.opsB
  have HOP := Lib.hid (And.intro hop1 hop2)
  obtain ⟨Al, N, cl, rfl, hNm, hNl, -⟩ := hl
  have HNL := Lib.hid hNl.out
  have hN20 : N ≤ 20 := by have := hr.len; have := hNl.out; omega
  clear hr hb1 hop1 hop2 hNl HB hd0
  have hSR : srtR l = srtT l := by unfold srtR; rw [if_pos HOP.out.2]
  have hSC : srtC l = 0 := by unfold srtC; rw [if_pos HOP.out.2]
  have hI1 := implSrt_any _ l w1 HL1.out
  rw [hSR, hSC] at hI1
  have hlT : (srtT l).length = N := by rw [srt_len HOP.out.2]; exact HNL.out
  have HLT := Lib.hid hlT
  rw [hlT] at hI1
  have HI1 := Lib.hid hI1
  clear hI1 hSR hSC hlT
  go_wp2_with fail
  refine HI1.out.mono ?_
  rintro e w2 ⟨v2, rfl, ho2, hb2⟩
  have ho2' : OwC w2 w1.heap.size w2.heap.size 55 8 v2 (srtT l).length (vO (srtT l)) := by rw [HLT.out]; exact ho2
  have HM2 := Lib.hid (show RdO w2 w2.heap.size v2 (srtT l) from RdS.of_own Opr.len ho2')
  obtain ⟨A2, c2, rfl, -⟩ := ho2.cells
  have HL2 := Lib.hid ((HL1.out.below hb2).more hb2.size)
  have HB2 := Lib.hid (HB1.out.trans (hb2.mono HB1.out.size))
  have HT := Lib.hid (show opsB n (srtT l) = true ∧ opsB 24 (srtT l) = true ∧ runM (newMc n) (srtT l) = some m ∧ srtT (srtT l) = srtT l ∧ cntP (srtT l) = cntP l from
    ⟨srt_ops HOP.out.1, srt_ops HOP.out.2, by rw [srt_run HOP.out.1]; exact HRU.out.run, srt_idem HOP.out.1, by unfold cntP; rw [srt_ops HOP.out.2, HOP.out.2, srt_psL HOP.out.2]⟩)
  clear ho2 ho2' hb2 HI1 HL1 HB1
  generalize srtT l = T at *
  have HCT := Lib.hid (implCount_any _ T w2 HM2.out)
  rw [HT.out.2.2.2.2] at HCT
  generalize hcv : cntP l = cv at *
  go_wp2_with fail
  refine HCT.out.mono ?_
  rintro e w3 ⟨rfl, hb3⟩
  have HM3 := Lib.hid ((HM2.out.below hb3).more hb3.size)
  have HL3 := Lib.hid ((HL2.out.below hb3).more hb3.size)
  have HB3 := Lib.hid (HB2.out.trans (hb3.mono HB2.out.size))
  have HCL := implCount_any _ l w3 HL3.out
  rw [hcv] at HCL
  have HCL := Lib.hid HCL
  clear hb3 HCT HM2 HL2 HB2 hcv
  go_wp2_with fail
  refine HCL.out.mono ?_
  rintro e w4 ⟨rfl, hb4⟩
  have HM4 := Lib.hid ((HM3.out.below hb4).more hb4.size)
  have HL4 := Lib.hid ((HL3.out.below hb4).more hb4.size)
  have HB4 := Lib.hid (HB3.out.trans (hb4.mono HB3.out.size))
  clear hb4 HCL HM3 HL3 HB3
  go_wp2_with fail
  refine (runMachine_any n _ l w4 HL4.out HOP.out.1 m HRU.out.run).mono ?_
  rintro e w5 ⟨vm1, rfl, hrm1, hb5⟩
  obtain ⟨A11, c11, A12, c12, A13, c13, A14, c14, A15, c15, rfl⟩ := RdM.shape hrm1
  have HX5 := Lib.hid (Bx.new w5 [.int .i64 m.wd, .int .i64 m.rk, .slice A11 m.fr.length c11, .slice A12 m.bk.length c12, .slice A13 m.cs.length c13, .slice A14 m.ls.length c14, .slice A15 m.dr.length c15] 41)
  have hbA := alloc_below w5 (.cells [.int .i64 m.wd, .int .i64 m.rk, .slice A11 m.fr.length c11, .slice A12 m.bk.length c12, .slice A13 m.cs.length c13, .slice A14 m.ls.length c14, .slice A15 m.dr.length c15].toArray 41)
  have hb45 : Below w4.heap.size w4 _ := hb5.trans (hbA.mono hb5.size)
  have HM5 := Lib.hid ((HM4.out.below hb45).more hb45.size)
  have HB5 := Lib.hid (HB4.out.trans (hb45.mono HB4.out.size))
  have HR5 := Lib.hid (RdM.up hrm1 hbA hbA.size)
  clear hb5 hrm1 hbA hb45 HM4 HL4 HB4
  go_wp2_with fail
  generalize w5.alloc (.cells #[.int .i64 m.wd, .int .i64 m.rk, .slice A11 m.fr.length c11, .slice A12 m.bk.length c12, .slice A13 m.cs.length c13, .slice A14 m.ls.length c14, .slice A15 m.dr.length c15] 41) = W5 at *
  refine (runMachine_any n _ T W5 HM5.out HT.out.1 m HT.out.2.2.1).mono ?_
  rintro e w6 ⟨vm2, rfl, hrm2, hb6⟩
  obtain ⟨A21, c21, A22, c22, A23, c23, A24, c24, A25, c25, rfl⟩ := RdM.shape hrm2
  have HX6 := Lib.hid (Bx.new w6 [.int .i64 m.wd, .int .i64 m.rk, .slice A21 m.fr.length c21, .slice A22 m.bk.length c22, .slice A23 m.cs.length c23, .slice A24 m.ls.length c24, .slice A25 m.dr.length c25] 41)
  have hbA := alloc_below w6 (.cells [.int .i64 m.wd, .int .i64 m.rk, .slice A21 m.fr.length c21, .slice A22 m.bk.length c22, .slice A23 m.cs.length c23, .slice A24 m.ls.length c24, .slice A25 m.dr.length c25].toArray 41)
  have hb56 : Below W5.heap.size W5 _ := hb6.trans (hbA.mono hb6.size)
  have HM6 := Lib.hid ((HM5.out.below hb56).more hb56.size)
  have HB6 := Lib.hid (HB5.out.trans (hb56.mono HB5.out.size))
  have HR6 := Lib.hid (RdM.up hrm2 hbA hbA.size)
  have HQ6 := Lib.hid (RdM.up HR5.out hb56 hb56.size)
  have HY6 := Lib.hid (HX5.out.below hb56 HX5.out.2.2)
  clear hb6 hrm2 hbA hb56 HM5 HB5 HR5 HX5
  go_wp2_with fail
  generalize w6.alloc (.cells #[.int .i64 m.wd, .int .i64 m.rk, .slice A21 m.fr.length c21, .slice A22 m.bk.length c22, .slice A23 m.cs.length c23, .slice A24 m.ls.length c24, .slice A25 m.dr.length c25] 41) = W6 at *
  have hI7 := implSrt_any _ T W6 HM6.out
  rw [show srtR T = T by unfold srtR; rw [if_pos HT.out.2.1]; exact HT.out.2.2.2.1, show srtC T = 0 by unfold srtC; rw [if_pos HT.out.2.1]] at hI7
  refine hI7.mono ?_
  rintro e w7 ⟨v7, rfl, ho7, hb7⟩
  have HN7 := Lib.hid (show RdO w7 w7.heap.size v7 T from RdS.of_own Opr.len ho7)
  obtain ⟨A7, c7, rfl, -⟩ := ho7.cells
  have HM7 := Lib.hid ((HM6.out.below hb7).more hb7.size)
  have HB7 := Lib.hid (HB6.out.trans (hb7.mono HB6.out.size))
  have HR7 := Lib.hid (RdM.up HR6.out hb7 hb7.size)
  have HQ7 := Lib.hid (RdM.up HQ6.out hb7 hb7.size)
  obtain ⟨x0, x1, x2, x3, x4, x5, x6⟩ := CellsAt.seven (HY6.out.below hb7 HY6.out.2.2).1
  obtain ⟨y0, y1, y2, y3, y4, y5, y6⟩ := CellsAt.seven (HX6.out.below hb7 HX6.out.2.2).1
  clear hI7 ho7 hb7 HM6 HB6 HR6 HQ6 HY6 HX6
  go_wp2_with fail
  refine (sameMachine_same _ _ m w7 HQ7.out HR7.out).mono ?_
  rintro e w8 ⟨rfl, hb8⟩
  have HM8 := Lib.hid ((HM7.out.below hb8).more hb8.size)
  have HN8 := Lib.hid ((HN7.out.below hb8).more hb8.size)
  have HB8 := Lib.hid (HB7.out.trans (hb8.mono HB7.out.size))
  clear hb8 HM7 HN7 HB7 HR7 HQ7
  go_wp2_with fail
  refine (a2Ops_same _ _ T w8 HN8.out HM8.out).mono ?_
  rintro e w9 ⟨rfl, hb9⟩
  have HB9 := Lib.hid (HB8.out.trans (hb9.mono HB8.out.size))
  clear hb9
  go_wp2
  go_ret
  exact ⟨rfl, HB9.out⟩
set_option maxRecDepth 100000 in
theorem FnSorted.walk {H : Type} {enc : TypeId × Value → H} {base : Nat} {d0 : DataW H} {p0 : List MemPlace} (W : World) (v0 : Value) (o0 : Value.okWide Try.prog W .any base 31 v0)
    (h0 : DataW.Trod enc Try.prog W 0 (fun _ => true) true 31 v0 d0 p0) : Calls Try.prog 4 #[v0] W fun e W' => e = .returned (.bool true) ∧ Below W.heap.size W W' :=
  FnSorted.core v0 W (open_rdB Try.underlying31 Try.underlying5 (by kernel_rfl) o0 h0)

namespace FnSorted
theorem own : ownKnob Try.prog.godebug = none := by kernel_rfl
theorem laidOut : laidOutB Try.prog = true := by kernel_rfl

set_option maxRecDepth 100000 in
theorem lifted (os : Os) (started : os.Started) (H : Type) (enc : TypeId × Value → H) :
    ReturnsInHanded {} Try.checked os 4 .any (Rows.fnSortedSpec.pre6 enc Try.prog Try.f4 Rows.fnSortedRow.domain false) (Rows.fnSortedSpec.post enc Try.prog Try.f4 false true false false) := by
  refine returnsInHanded_of_change (C := Try.checked) own started (by kernel_rfl) Try.func4
    (ChangeSpec.witness6 (enc := enc) (C := Try.checked) false ⟨#[], #[.slice none 0 0], []⟩ 8 (by kernel_rfl) (by kernel_rfl) (by kernel_rfl) (by kernel_rfl)) ?_
  intro W base args ds gs before hval0 hW hcnd _
  have hval : ∀ (j : Nat) t v, Try.f4.params[j]? = some t → args[j]? = some v → Value.okWide Try.prog W .any base t v := hval0
  have hW' := hW
  obtain ⟨p, q, hA0, hV, rfl, hfz, hnd⟩ := hW
  have hA : DataW.TrodAll enc Try.prog W 0 (fun _ => true) true Try.f4.params.toList args.toList ds p := hA0
  rw [Try.params4] at hA hval
  obtain ⟨v0, vs0, d0, ds0, p0, q0, hargs, rfl, rfl, h0, r0⟩ := trodAll_cons hA
  obtain ⟨rfl, rfl, rfl⟩ := trodAll_nil r0
  obtain rfl : args = #[v0] := by cases args; simp_all
  obtain ⟨rfl, rfl⟩ := trodVars_none hV
  have k0 := h0
  have lt0 : ∀ x ∈ p0, x.block < W.heap.size := by obtain ⟨m, hm⟩ := k0; exact DataW.trod_lt m _ _ _ hm
  clear hA0 hval0
  refine (walk W v0 (hval 0 _ v0 rfl rfl) h0).mono fun e W' ⟨he, bel⟩ => ?_
  subst he
  exact ⟨_, rfl, _, _, _, [], _, [], hW', trodAll_mk1 (shut_bool Try.underlying4 _), (trodAll_cons_mk (Below.trod laidOut (by kernel_rfl) (of_decide_eq_true (by kernel_rfl)) k0 bel lt0) trodAll_mk0), rfl, bel.frame _, fun h => by cases h⟩

theorem over : Rows.fnSortedRow.holds Try.pinned (OpenSpec.ofChange Rows.fnSortedSpec) :=
  OpenClaim.holds_of_wide 4 Try.f4 rfl rfl rfl rfl rfl rfl rfl ⟨rfl, rfl, rfl, rfl, rfl⟩ rfl rfl rfl rfl rfl (by kernel_rfl) Try.func4 (by kernel_rfl)
    (of_decide_eq_true (by kernel_rfl)) (by unfold Func.isWrapper; first | (rw [if_pos (by decide +kernel)]; kernel_rfl) | (rw [if_neg (by decide +kernel)]; exact ⟨rfl, rfl⟩))
    (fun os started H enc _ => lifted os started H enc)

theorem proved : Rows.FnSortedSaid := over
end FnSorted

end Go.Proofs.Ytolcgopfbbmjgaa
