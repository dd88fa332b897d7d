/-
  Proved: every loop is in one state, its children have it as a parent and a greater course, and its wale is not longer than its course and one, whatever the bytes are: the law answers true. No condition.
-/
import Derived.Test.YtogaellhkjjeaaaPk5
import Derived.Test.YtogaellhkjjeaaaPk3
namespace Go.Proofs.Ytogaellhkjjeaaa
set_option linter.unusedVariables false
set_option linter.unusedSimpArgs false
open Go.ChangeShapes Go.WideShapes Go.ChangeAt Go.RowKit Go.Deep

theorem coR_eq {m : Mc} {k : Int} (h : askC m k = 0) : coR m k = coL m k := by unfold coR coL; rw [if_pos h]
theorem ask_of {m : Mc} {k : Int} (ok : okM m = true) (h0 : 0 ≤ k) (h1 : k < m.ls.length) : askC m k = 0 := ask_ok ok (inB_iff.2 (by omega))
theorem ask_out {m : Mc} {k : Int} (ok : okM m = true) (h : askC m k ≠ 0) : k < 0 ∨ (m.ls.length : Int) ≤ k := by
  rcases Int.lt_or_le k 0 with h0 | h0
  · exact .inl h0
  · rcases Int.lt_or_le k m.ls.length with h1 | h1
    · exact absurd (ask_of ok h0 h1) h
    · exact .inr h1
/-- The row of counts. -/
theorem fcL_row {w : World} {B : Nat} {v : Value} {m : Mc} (h : RdI w B v (fcL m)) : ∃ b o c, v = .slice (some ⟨b, o, none⟩) 7 c ∧ ∀ j : Nat, j < 7 → w.cell? ⟨b, o + j, none⟩ = some (.int .i64 (fcF m m.ls.length (j : Int))) := by
  obtain ⟨A, n, c, rfl, hn, hl, g⟩ := h
  have h7 : n = 7 := by have := hl.out; rw [fcL_len] at this; omega
  subst h7
  obtain ⟨b, o, x, rfl, -, -, -⟩ := g 0 (by omega)
  refine ⟨b, o, c, rfl, fun j hj => ?_⟩
  obtain ⟨b', o', x', e, -, hx, hc⟩ := g j hj
  injection e with e
  injection e with e1 e2
  subst e1 e2
  have : (fcL m)[j]? = some (fcF m m.ls.length (j : Int)) := by unfold fcL; rw [List.getElem?_map, List.getElem?_range hj]; rfl
  rw [this] at hx
  injection hx with hx
  rw [hx]
  exact hc
set_option maxHeartbeats 40000000 in
set_option maxRecDepth 100000 in
theorem FnFabric.core (v0 : Value) (W : World) (hb : RdB W W.heap.size v0) : Calls Try.prog 4 #[v0] W fun e W' => e = .returned (.bool true) ∧ Below W.heap.size W W' := by
  have HB := Lib.hid hb
  obtain ⟨A0, n0, c0, rfl, hn0, -⟩ := hb
  by_cases hlong : 1048576 < n0
  · go_enter Try.func4, Try.ntmps4
    go_wp2_with fail
    refine (b10Long_s A0 n0 c0 hn0 true (by simpa using hlong) _).mono ?_
    rintro e w' ⟨rfl, rfl⟩
    go_wp2
    go_ret
    exact ⟨rfl, Below.refl _ _⟩
  go_enter Try.func4, Try.ntmps4
  go_wp2_with fail
  refine (b10Long_s A0 n0 c0 hn0 false (by simpa using hlong) _).mono ?_
  rintro e w' ⟨rfl, rfl⟩
  go_wp2_with fail
  refine (DrawChildrenOf_any W _ HB.out).mono ?_
  rintro e w1 ⟨m, v, k, rfl, hrd, hsm, hk0, hk1, hb1⟩
  obtain ⟨A1, c1, A2, c2, A3, c3, A4, c4, A5, c5, rfl⟩ := RdM.shape hrd.rd
  have hbA := (Below.refl w1.heap.size w1).alloc (Nat.le_refl _) (.cells (mcV m.wd m.rk (.slice A1 m.fr.length c1) (.slice A2 m.bk.length c2) (.slice A3 m.cs.length c3) (.slice A4 m.ls.length c4) (.slice A5 m.dr.length c5)) 29)
  have V1 := Lib.hid (hrd.below (Nat.le_refl _) hbA)
  have HSM := Lib.hid hsm
  have B1 := Lib.hid (hb1.trans (hbA.mono hb1.size))
  have X1 := Lib.hid (Bx.new w1 [.int .i64 m.wd, .int .i64 m.rk, .slice A1 m.fr.length c1, .slice A2 m.bk.length c2, .slice A3 m.cs.length c3, .slice A4 m.ls.length c4, .slice A5 m.dr.length c5] 29)
  clear hrd hsm hb1 hbA hlong
  go_wp2_with fail
  generalize w1.alloc (.cells (mcV m.wd m.rk (.slice A1 m.fr.length c1) (.slice A2 m.bk.length c2) (.slice A3 m.cs.length c3) (.slice A4 m.ls.length c4) (.slice A5 m.dr.length c5)) 29) = wA at *
  generalize w1.heap.size = gm at *
  refine (implCounts_any _ m wA V1.out.rd HSM.out.fit).mono ?_
  rintro e w2 ⟨vc, rfl, hoc, hb2⟩
  have V2 := Lib.hid (V1.out.below (Nat.le_refl _) hb2)
  have B2 := Lib.hid (B1.out.trans (hb2.mono B1.out.size))
  have X2 := Lib.hid (X1.out.below hb2 X1.out.2.2)
  have OC := Lib.hid hoc
  clear hb2 hoc V1 B1 X1
  obtain ⟨x0, x1, x2, x3, x4, x5, x6⟩ := CellsAt.seven X2.out.1
  cases hok : okM m
  · rw [okC_no hok]
    have HQ := Lib.hid (specValid_any _ m w2 V2.out.rd HSM.out.fit)
    rw [hok] at HQ
    clear OC hok
    go_wp2_with fail
    refine HQ.out.mono ?_
    rintro e w3 ⟨rfl, hb3⟩
    have HB3 := Lib.hid (B2.out.trans (hb3.mono B2.out.size))
    clear hb3 HQ x0 x1 x2 x3 x4 x5 x6
    go_wp2
    go_ret
    exact ⟨rfl, HB3.out⟩
  · rw [okC_yes hok]
    have hro := OC.out
    rw [okC_list (n := 0) hok] at hro
    obtain ⟨bc, oc, cc, rfl, hc7⟩ := fcL_row (RdI.of_own hro)
    have hlow := fc_low m m.ls.length
    have hhigh := fc_high m m.ls.length
    have hdrp := Int.le_trans (fc_drop m m.ls.length) (cnt_le m.dr m.ls.length)
    have hls : m.ls.length ≤ 300 := (okM_iff.1 hok).ls
    have hn0 := fun j : Int => (fcF_rng m m.ls.length j).1
    obtain ⟨d0, d1, d2, d3, d4, d5, d6⟩ := (⟨hn0 0, hn0 1, hn0 2, hn0 3, hn0 4, hn0 5, hn0 6⟩ : _ ∧ _ ∧ _ ∧ _ ∧ _ ∧ _ ∧ _)
    have k0 : w2.cell? ⟨bc, oc, none⟩ = _ := hc7 0 (by omega)
    have k1 : w2.cell? ⟨bc, oc + 1, none⟩ = _ := hc7 1 (by omega)
    have k2 : w2.cell? ⟨bc, oc + 2, none⟩ = _ := hc7 2 (by omega)
    have k3 : w2.cell? ⟨bc, oc + 3, none⟩ = _ := hc7 3 (by omega)
    have k4 : w2.cell? ⟨bc, oc + 4, none⟩ = _ := hc7 4 (by omega)
    have k5 : w2.cell? ⟨bc, oc + 5, none⟩ = _ := hc7 5 (by omega)
    have k6 : w2.cell? ⟨bc, oc + 6, none⟩ = _ := hc7 6 (by omega)
    have hw1 : IntKind.i64.wrap (fcF m m.ls.length 0 + fcF m m.ls.length 1) = fcF m m.ls.length 0 + fcF m m.ls.length 1 := wrap_sm (by omega) (by omega)
    have hw2 : IntKind.i64.wrap (fcF m m.ls.length 0 + fcF m m.ls.length 1 + fcF m m.ls.length 2) = (m.ls.length : Int) := by rw [hlow]; exact wrap_sm (by omega) (by omega)
    have hw3 : IntKind.i64.wrap (fcF m m.ls.length 3 + fcF m m.ls.length 4) = fcF m m.ls.length 3 + fcF m m.ls.length 4 := wrap_sm (by omega) (by omega)
    have hw4 : IntKind.i64.wrap (fcF m m.ls.length 3 + fcF m m.ls.length 4 + fcF m m.ls.length 5) = fcF m m.ls.length 3 + fcF m m.ls.length 4 + fcF m m.ls.length 5 := wrap_sm (by omega) (by omega)
    have hw5 : IntKind.i64.wrap (fcF m m.ls.length 3 + fcF m m.ls.length 4 + fcF m m.ls.length 5 + fcF m m.ls.length 6) = (m.ls.length : Int) := by rw [hhigh]; exact wrap_sm (by omega) (by omega)
    have hdl : ¬ (m.dr.length : Int) < fcF m m.ls.length 5 := by omega
    have OC' := OC
    clear OC OC' hc7 hro hn0 hlow hhigh hdrp d0 d1 d2 d3 d4 d5 d6
    generalize fcF m m.ls.length 0 = F0 at *
    generalize fcF m m.ls.length 1 = F1 at *
    generalize fcF m m.ls.length 2 = F2 at *
    generalize fcF m m.ls.length 3 = F3 at *
    generalize fcF m m.ls.length 4 = F4 at *
    generalize fcF m m.ls.length 5 = F5 at *
    generalize fcF m m.ls.length 6 = F6 at *
    have HOK := Lib.hid hok
    clear hok
    go_wp2
    go_quiet (fail)
    have hd3 := below_drewN (Below.refl w2.heap.size w2) nq
    have V3 := Lib.hid (V2.out.below (Nat.le_refl _) hd3)
    have B3 := Lib.hid (B2.out.trans (hd3.mono B2.out.size))
    have X3 := Lib.hid (X2.out.below hd3 X2.out.2.2)
    clear hd3 V2 B2 X2 x0 x1 x2 x3 x4 x5 x6 k0 k1 k2 k3 k4 k5 k6
    generalize w2.drewN nq = w3 at *
    obtain ⟨x0, x1, x2, x3, x4, x5, x6⟩ := CellsAt.seven X3.out.1
    go_wp2_with fail
    clear hw1 hw2 hw3 hw4 hw5 hdl
    refine (implChildren_any _ m k w3 V3.out.rd HSM.out.fit).mono ?_
    rintro e w4 ⟨vch, rfl, hoch, hb4⟩
    have V4 := Lib.hid (V3.out.below (Nat.le_refl _) hb4)
    have B4 := Lib.hid (B3.out.trans (hb4.mono B3.out.size))
    have X4 := Lib.hid (X3.out.below hb4 X3.out.2.2)
    have C4 := Lib.hid (RdI.of_own hoch)
    clear V3 B3 X3 hb4 hoch x0 x1 x2 x3 x4 x5 x6
    obtain ⟨x0, x1, x2, x3, x4, x5, x6⟩ := CellsAt.seven X4.out.1
    go_wp2_with fail
    refine (implCourse_any _ m k w4 V4.out.rd HSM.out.fit).mono ?_
    rintro e w5 ⟨hr5, hb5⟩
    unfold couR at hr5
    subst hr5
    have V5 := Lib.hid (V4.out.below (Nat.le_refl _) hb5)
    have B5 := Lib.hid (B4.out.trans (hb5.mono B4.out.size))
    have X5 := Lib.hid (X4.out.below hb5 X4.out.2.2)
    have C5 := Lib.hid ((C4.out.below hb5).more hb5.size)
    clear V4 B4 X4 C4 hb5 x0 x1 x2 x3 x4 x5 x6
    obtain ⟨x0, x1, x2, x3, x4, x5, x6⟩ := CellsAt.seven X5.out.1
    go_wp2_with fail
    refine (implWale_any _ m k w5 V5.out.rd HSM.out.fit).mono ?_
    rintro e w6 ⟨vwa, rfl, howa, hb6⟩
    have V6 := Lib.hid (V5.out.below (Nat.le_refl _) hb6)
    have B6 := Lib.hid (B5.out.trans (hb6.mono B5.out.size))
    have X6 := Lib.hid (X5.out.below hb6 X5.out.2.2)
    have C6 := Lib.hid ((C5.out.below hb6).more hb6.size)
    have U6 := Lib.hid (RdI.of_own howa)
    clear V5 B5 X5 C5 hb6 howa x0 x1 x2 x3 x4 x5 x6
    by_cases ha : askC m k = 0
    · obtain ⟨-, h0, h1⟩ := ask_zero ha
      rw [coR_eq ha, ha]
      rw [ha, okList_yes rfl] at C6 U6
      obtain ⟨kn, rfl⟩ := Int.eq_ofNat_of_zero_le h0
      have hkl : kn < m.ls.length := by omega
      have hco0 := co_nn m (kn : Int)
      have hco1 := co_le HOK.out hkl
      have hwl := waleL_co HOK.out h0 h1
      have HCH := Lib.hid (fun (c : Int) (hc : c ∈ chL m (kn : Int)) => (⟨chL_rng HOK.out hc, co_child HOK.out hc h0⟩ : _ ∧ _))
      have HCP := Lib.hid (fun (c : Int) (hc : c ∈ chL m (kn : Int)) => chGo_mem hc)
      have hchl : (chL m (kn : Int)).length ≤ 300 := by have := chGo_len (kn : Int) m.ls 0; unfold chL; omega
      obtain ⟨Ach, nch, cch, rfl, -, hnch, gch⟩ := C6.out
      obtain ⟨Awa, nwa, cwa, rfl, -, hnwa, gwa⟩ := U6.out
      have hn1 := hnch.out
      have hn2 := hnwa.out
      have hwe : waleL m (kn : Int) = (kn : Int) :: waleT m ((kn : Int).toNat + 1) (kn : Int) := rfl
      have hwp : 0 < nwa := by rw [hwe] at hn2; simp at hn2; omega
      obtain ⟨bw, ow, uw, rfl, hbw, huw, hcw⟩ := gwa 0 hwp
      rw [hwe] at huw
      injection huw with huw
      subst huw
      have hnle : (nwa : Int) ≤ coL m (kn : Int) + 1 := by omega
      have HN1 := Lib.hid hn1
      have HGC := Lib.hid gch
      have hchn : nch ≤ 300 := by omega
      have HCW := Lib.hid hcw
      clear hnwa gwa hn2 hwe hwl hchl hn1 hnch gch C6 U6 ha hcw
      generalize hCO : coL m (kn : Int) = CO at *
      go_wp2
      go_loopw [14, 15, 16, 17] (fun i _ _ _ wr => ∃ (t : Nat) (wq : World), wq = wr ∧ t ≤ nch ∧ i = .int .i64 t ∧ Hid (Below w6.heap.size w6 wq)) (fun i _ _ _ _ => nch - (intOf i).toNat)
      case atStart => exact ⟨0, _, rfl, Nat.zero_le _, rfl, Below.refl _ _⟩
      case round =>
        obtain ⟨t, wq, hwq, htn, rfl, HBq⟩ := hrel
        subst hwq
        have Xq := X6.out.below HBq.out X6.out.2.2
        obtain ⟨y0, y1, y2, y3, y4, y5, y6⟩ := CellsAt.seven Xq.1
        by_cases hlt : t < nch
        · obtain ⟨bc1, oc1, c, rfl, hbc1, hlc, hcc⟩ := HGC.out t hlt
          have hcq := (HBq.out.cell (p := ⟨bc1, oc1 + t, none⟩) hbc1).trans hcc
          have hcm := List.mem_of_getElem? hlc
          obtain ⟨⟨hkc, hcl⟩, hcoc⟩ := HCH.out c hcm
          obtain ⟨cj, xc, hce, hxc, hpc⟩ := HCP.out c hcm
          have hce' : c = (cj : Int) := by omega
          subst hce'
          have hcjl : cj < m.ls.length := by omega
          have hrdq := (V6.out.below (Nat.le_refl _) HBq.out).rd
          obtain ⟨bL, oL, z, Ap, cp, hA4, hbL, hLz, cL, hrp, -⟩ := (RdM.ls_ hrdq).at_cap hcjl
          subst hA4
          have ez : z = xc := by rw [hxc] at hLz; injection hLz with hLz; exact hLz.symm
          subst ez
          have cL5 : wq.cell? ⟨bL, oL + cj * 6 + 5, none⟩ = some (.slice Ap z.ps.length cp) := cL.six.2.2.2.2.2
          have HQH := Lib.hid (b10Has_s _ z.ps (kn : Int) wq hrp)
          have HQC := Lib.hid (implCourse_any _ m (cj : Int) wq hrdq HSM.out.fit)
          have hasj : askC m (cj : Int) = 0 := ask_of HOK.out (by omega) hcl
          unfold couR at HQC
          rw [coR_eq hasj, hasj] at HQC
          rw [hpc] at HQH
          have hnl : ¬ coL m (cj : Int) ≤ CO := by omega
          have hng : ¬ (cj : Int) < 0 := by omega
          have hcj0 : (0 : Int) ≤ (cj : Int) := by omega
          generalize coL m (cj : Int) = CJ at *
          clear Xq hcc hlc hcm hxc hpc hLz cL hrp hrdq hasj hkc hcoc hce
          go_wp2_with fail
          refine (HQH.out).mono ?_
          rintro e w7 ⟨rfl, rfl⟩
          go_wp2_with fail
          refine (HQC.out).mono ?_
          rintro e w8 ⟨rfl, hb8⟩
          have HB8 := Lib.hid (HBq.out.trans (hb8.mono HBq.out.size))
          clear hb8 HQH HQC
          go_wp2
          exact ⟨⟨t + 1, _, rfl, by omega, by go_num, HB8.out⟩, by simp [intOf]; omega⟩
        · have hcwq := (HBq.out.cell (p := ⟨bw, ow + 0, none⟩) hbw).trans HCW.out
          have hcwq' : wq.cell? ⟨bw, ow, none⟩ = some (.int .i64 (kn : Int)) := hcwq
          have HBW := Lib.hid (B6.out.trans (HBq.out.mono B6.out.size))
          have hne0 : ((nwa : Int) == 0) = false := by simp; omega
          have hle2 : ¬ CO + 1 < (nwa : Int) := by omega
          have hwp2 : (0 : Int) < (nwa : Int) := by omega
          clear Xq y0 y1 y2 y3 y4 y5 y6 hcwq
          go_wp2
          go_ret
          exact ⟨rfl, HBW.out⟩
    · have hne : (askC m k != 0) = true := by simpa using ha
      have hout := ask_out HOK.out ha
      clear C6 U6 V6 X6
      generalize askC m k = AC at *
      rcases hout with h9 | h9
      · go_wp2
        go_ret
        exact ⟨rfl, B6.out⟩
      · have h10 : ¬ k < 0 := by omega
        go_wp2
        go_ret
        exact ⟨rfl, B6.out⟩
set_option maxRecDepth 100000 in
theorem FnFabric.walk {H : Type} {enc : TypeId × Value → H} {base : Nat} {d0 : DataW H} {p0 : List MemPlace} (W : World) (v0 : Value) (o0 : Value.okWide Try.prog W .any base 22 v0)
    (h0 : DataW.Trod enc Try.prog W 0 (fun _ => true) true 22 v0 d0 p0) : Calls Try.prog 4 #[v0] W fun e W' => e = .returned (.bool true) ∧ Below W.heap.size W W' :=
  FnFabric.core v0 W (open_rdB Try.underlying22 Try.underlying5 (by kernel_rfl) o0 h0)

namespace FnFabric
theorem own : ownKnob Try.prog.godebug = none := by kernel_rfl
theorem laidOut : laidOutB Try.prog = true := by kernel_rfl

set_option maxRecDepth 100000 in
theorem lifted (os : Os) (started : os.Started) (H : Type) (enc : TypeId × Value → H) :
    ReturnsInHanded {} Try.checked os 4 .any (Rows.fnFabricSpec.pre6 enc Try.prog Try.f4 Rows.fnFabricRow.domain false) (Rows.fnFabricSpec.post enc Try.prog Try.f4 false true false false) := by
  refine returnsInHanded_of_change (C := Try.checked) own started (by kernel_rfl) Try.func4
    (ChangeSpec.witness6 (enc := enc) (C := Try.checked) false ⟨#[], #[.slice none 0 0], []⟩ 8 (by kernel_rfl) (by kernel_rfl) (by kernel_rfl) (by kernel_rfl)) ?_
  intro W base args ds gs before hval0 hW hcnd _
  have hval : ∀ (j : Nat) t v, Try.f4.params[j]? = some t → args[j]? = some v → Value.okWide Try.prog W .any base t v := hval0
  have hW' := hW
  obtain ⟨p, q, hA0, hV, rfl, hfz, hnd⟩ := hW
  have hA : DataW.TrodAll enc Try.prog W 0 (fun _ => true) true Try.f4.params.toList args.toList ds p := hA0
  rw [Try.params4] at hA hval
  obtain ⟨v0, vs0, d0, ds0, p0, q0, hargs, rfl, rfl, h0, r0⟩ := trodAll_cons hA
  obtain ⟨rfl, rfl, rfl⟩ := trodAll_nil r0
  obtain rfl : args = #[v0] := by cases args; simp_all
  obtain ⟨rfl, rfl⟩ := trodVars_none hV
  have k0 := h0
  have lt0 : ∀ x ∈ p0, x.block < W.heap.size := by obtain ⟨m, hm⟩ := k0; exact DataW.trod_lt m _ _ _ hm
  clear hA0 hval0
  refine (walk W v0 (hval 0 _ v0 rfl rfl) h0).mono fun e W' ⟨he, bel⟩ => ?_
  subst he
  exact ⟨_, rfl, _, _, _, [], _, [], hW', trodAll_mk1 (shut_bool Try.underlying4 _), (trodAll_cons_mk (Below.trod laidOut (by kernel_rfl) (of_decide_eq_true (by kernel_rfl)) k0 bel lt0) trodAll_mk0), rfl, bel.frame _, fun h => by cases h⟩

theorem over : Rows.fnFabricRow.holds Try.pinned (OpenSpec.ofChange Rows.fnFabricSpec) :=
  OpenClaim.holds_of_wide 4 Try.f4 rfl rfl rfl rfl rfl rfl rfl ⟨rfl, rfl, rfl, rfl, rfl⟩ rfl rfl rfl rfl rfl (by kernel_rfl) Try.func4 (by kernel_rfl)
    (of_decide_eq_true (by kernel_rfl)) (by unfold Func.isWrapper; first | (rw [if_pos (by decide +kernel)]; kernel_rfl) | (rw [if_neg (by decide +kernel)]; exact ⟨rfl, rfl⟩))
    (fun os started H enc _ => lifted os started H enc)

theorem proved : Rows.FnFabricSaid := over
end FnFabric

end Go.Proofs.Ytogaellhkjjeaaa
