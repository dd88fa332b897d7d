/-
  ValidMachine of the program.
-/
import Derived.Test.YtccdnmafakaleaaDoorMcOk
import Derived.Test.YtccdnmafakaleaaDoorMcInfo
namespace Go.Proofs.YtccdnmafakaleaaDoor
set_option linter.unusedVariables false
set_option linter.unusedSimpArgs false
open Go.RowKit

set_option maxHeartbeats 8000000 in
set_option maxRecDepth 100000 in
theorem validMachine_any (v : Value) (m : Mc) (w : World) (hl : RdM w w.heap.size v m) :
    Calls Tryd.prog 29 #[v] w fun e w' => e = .returned (.bool (okM m)) ∧ Below w.heap.size w w' := by
  obtain ⟨f, b, cs, ls, d, rfl, h1, h2, h3, h4, h5, h6⟩ := hl
  obtain ⟨AF, cF, rfl⟩ := RdN.shape h1
  obtain ⟨AG, cG, rfl⟩ := RdN.shape h2
  obtain ⟨AC, cC, rfl⟩ := RdS.lens h3
  obtain ⟨AI, cI, rfl⟩ := RdN.shape h4
  obtain ⟨AD, cD, rfl⟩ := RdI.len h5
  have b1 := RdN.le h1
  have b2 := RdN.le h2
  have b3 := RdS.le h3
  have b4 := RdN.le h4
  have b5 := h5.len_le
  have HF := Lib.hid h1
  have HG := Lib.hid h2
  have HC := Lib.hid h3
  have HI := Lib.hid h4
  have HD := Lib.hid h5
  have HDC := Lib.hid h6
  clear h1 h2 h3 h4 h5 h6
  generalize hR : okM m = R
  have HR := Lib.hid hR
  clear hR
  have hcl : ∀ w1, Below (w.alloc (.cells #[.int .i64 m.wd, .int .i64 m.rk, .slice AF m.fr.length cF, .slice AG m.bk.length cG, .slice AC m.cs.length cC, .slice AI m.ls.length cI, .slice AD m.dr.length cD] 33)).heap.size (w.alloc (.cells #[.int .i64 m.wd, .int .i64 m.rk, .slice AF m.fr.length cF, .slice AG m.bk.length cG, .slice AC m.cs.length cC, .slice AI m.ls.length cI, .slice AD m.dr.length cD] 33)) w1 →
      CellsAt w1 w.heap.size 0 [.int .i64 m.wd, .int .i64 m.rk, .slice AF m.fr.length cF, .slice AG m.bk.length cG, .slice AC m.cs.length cC, .slice AI m.ls.length cI, .slice AD m.dr.length cD] := fun w1 hb => CellsAt.below CellsAt.of_alloc hb (by simp)
  obtain ⟨W0, hW0⟩ : ∃ W0, W0 = w.alloc (.cells #[.int .i64 m.wd, .int .i64 m.rk, .slice AF m.fr.length cF, .slice AG m.bk.length cG, .slice AC m.cs.length cC, .slice AI m.ls.length cI, .slice AD m.dr.length cD] 33) := ⟨_, rfl⟩
  have BW := Lib.hid (show Below w.heap.size w W0 by rw [hW0]; exact (Below.refl _ _).alloc (Nat.le_refl _) _)
  have hws : w.heap.size < W0.heap.size := by rw [hW0]; simp
  have HW0 := Lib.hid hW0
  rw [← hW0] at hcl
  have HCL := Lib.hid hcl
  obtain ⟨x0, x1, x2, x3, x4, x5, x6⟩ := (hcl _ (Below.refl _ _)).seven
  clear hcl
  cases hh : headM m
  · have HN := Lib.hid (show R = false by rw [← HR.out]; simp [okM, hh])
    rcases headM_no hh with a1 | ⟨a1, a2⟩ | ⟨a1, a2, a3⟩ | ⟨a1, a2, a3, a4⟩ | ⟨a1, a2, a3, a4, a5⟩ | ⟨a1, a2, a3, a4, a5, a6⟩
    all_goals
      clear HR hh
      go_enter Tryd.func29, Tryd.ntmps29
      go_wp2_with (first
        | (go_at_call 47; refine (within_s _ _ _ _).mono ?_; rintro e w' ⟨rfl, rfl⟩; rw [a1])
        | (go_at_call 46; refine (isRack_s _ _).mono ?_; rintro e w' ⟨rfl, rfl⟩; rw [a2]))
      go_ret
      exact ⟨ret_bool HN.out.symm, by rw [← HW0.out]; exact BW.out⟩
  · obtain ⟨a1, a2, a3, a4, a5, a6, wb0, wb1, l1, l2, -⟩ := headM_yes hh
    have HR1 := Lib.hid (show R = (lens4 (m.fr ++ m.bk) && (carsB m.wd m.cs && (infsB m.wd 0 m.ls && (risB m.dr && parsB m.ls.length [] (m.fr.flatten ++ (m.bk.flatten ++ m.dr)))))) by rw [← HR.out]; simp [okM, hh, lens4, Bool.and_assoc])
    clear HR hh
    have hcat : Calls Tryd.prog 64 #[.slice (some ⟨w.heap.size + 1, 0, none⟩) 2 2] (W0.alloc (.cells #[.slice AF m.fr.length cF, .slice AG m.bk.length cG] 22)) fun e w' => ∃ v, e = .returned v ∧ RdLL w' w'.heap.size v (m.fr ++ m.bk) ∧ Below (W0.heap.size + 1) (W0.alloc (.cells #[.slice AF m.fr.length cF, .slice AG m.bk.length cG] 22)) w' := by
      rw [show w.heap.size + 1 = W0.heap.size by rw [HW0.out]; simp]
      have hb2 : Below w.heap.size w (W0.alloc (.cells #[.slice AF m.fr.length cF, .slice AG m.bk.length cG] 22)) := BW.out.alloc BW.out.size _
      have h := concat_any [.slice AF m.fr.length cF, .slice AG m.bk.length cG] [m.fr, m.bk] W0.heap.size 2 2 (W0.alloc (.cells #[.slice AF m.fr.length cF, .slice AG m.bk.length cG] 22)) rfl rfl (by omega) (by simp) CellsAt.of_alloc (by
        intro j V L hV hL
        rcases j with _ | _ | j
        · simp at hV hL
          subst hV hL
          exact RdLL.more (RdLL.below HF.out hb2) hb2.size
        · simp at hV hL
          subst hV hL
          exact RdLL.more (RdLL.below HG.out hb2) hb2.size
        · simp at hV) (by simp; omega)
      simpa using h
    have HCAT := Lib.hid hcat
    clear hcat
    go_enter Tryd.func29, Tryd.ntmps29
    go_wp2_with (first
      | (go_at_call 47; refine (within_s _ _ _ _).mono ?_; rintro e w' ⟨rfl, rfl⟩; rw [a1])
      | (go_at_call 46; refine (isRack_s _ _).mono ?_; rintro e w' ⟨rfl, rfl⟩; rw [a2]))
    rw [← HW0.out]
    refine HCAT.out.mono ?_
    rintro e w1 ⟨v1, rfl, hrd, hb⟩
    obtain ⟨LB, hLB⟩ : ∃ LB, LB = m.fr ++ m.bk := ⟨_, rfl⟩
    rw [← hLB] at hrd HR1
    obtain ⟨A1, c1, rfl⟩ := RdN.shape hrd
    have hbig := RdN.le hrd
    generalize hnl : LB.length = nl at *
    have HNL := Lib.hid hnl
    have HRD := Lib.hid hrd
    have HB1 := Lib.hid (((Below.refl W0.heap.size W0).alloc (Nat.le_refl _) _).trans (hb.mono (by omega)))
    clear hrd hb hLB hnl x0 x1 x2 x3 x4 x5 x6 HCAT
    go_wp2
    go_loopw [55] (fun i wr => ∃ (k : Nat) (W2 : World), W2 = wr ∧ k ≤ nl ∧ i = .int .i64 k ∧ Hid (R = (lens4 (LB.drop k) && (carsB m.wd m.cs && (infsB m.wd 0 m.ls && (risB m.dr && parsB m.ls.length [] (m.fr.flatten ++ (m.bk.flatten ++ m.dr))))))) ∧ Below w1.heap.size w1 W2) (fun i _ => nl - (intOf i).toNat)
    case atStart => exact ⟨0, _, rfl, Nat.zero_le _, rfl, HR1.out, Below.refl _ _⟩
    case round =>
      obtain ⟨k, wr, hwr, hk, rfl, hd, hb⟩ := hrel
      subst hwr
      by_cases hlt : k < nl
      · obtain ⟨b, off, x, s, rfl, hbb, hlk, hc, hs⟩ := (RdLL.below HRD.out hb).at_ hlt
        obtain ⟨A2, c2, rfl⟩ := hs.len
        have hbx := hs.len_le
        have HB2 := Lib.hid hb
        by_cases h4 : ((x.length : Nat) : Int) ≤ 4
        · have HN := Lib.hid (show R = (lens4 (LB.drop (k + 1)) && (carsB m.wd m.cs && (infsB m.wd 0 m.ls && (risB m.dr && parsB m.ls.length [] (m.fr.flatten ++ (m.bk.flatten ++ m.dr)))))) by rw [lens_next hd.out hlk, decide_eq_true (show x.length ≤ 4 by omega)]; rfl)
          clear hb hd hlk hs
          go_wp2
          exact ⟨⟨k + 1, _, rfl, by omega, by go_num, HN.out, HB2.out⟩, by simp [intOf]; omega⟩
        · have HN := Lib.hid (show R = false by rw [lens_next hd.out hlk, decide_eq_false (show ¬ x.length ≤ 4 by omega)]; rfl)
          clear hb hd hlk hs
          go_wp2
          go_ret
          exact ⟨ret_bool HN.out.symm, BW.out.trans ((HB1.out.trans (HB2.out.mono HB1.out.size)).mono (Nat.le_of_lt hws))⟩
      · have HR2 := Lib.hid (show R = (carsB m.wd (m.cs.drop 0) && (infsB m.wd 0 m.ls && (risB m.dr && parsB m.ls.length [] (m.fr.flatten ++ (m.bk.flatten ++ m.dr))))) by rw [hd.out, List.drop_of_length_le (by have := HNL.out; omega)]; rfl)
        have HB2 := Lib.hid (HB1.out.trans (hb.mono HB1.out.size))
        clear hb hd HR1 HRD HB1
        obtain ⟨x0, x1, x2, x3, x4, x5, x6⟩ := (HCL.out _ HB2.out).seven
        go_wp2
        clear x0 x1 x2 x3 x4 x5 x6
        go_loopw [66] (fun i wq => ∃ (k : Nat) (W3 : World), W3 = wq ∧ k ≤ m.cs.length ∧ i = .int .i64 k ∧ Hid (R = (carsB m.wd (m.cs.drop k) && (infsB m.wd 0 m.ls && (risB m.dr && parsB m.ls.length [] (m.fr.flatten ++ (m.bk.flatten ++ m.dr)))))) ∧ Below W0.heap.size W0 W3) (fun i _ => m.cs.length - (intOf i).toNat)
        case atStart => exact ⟨0, _, rfl, Nat.zero_le _, rfl, HR2.out, HB2.out⟩
        case round =>
          obtain ⟨k, wq, hwr, hk, rfl, hd, hb⟩ := hrel
          subst hwr
          obtain ⟨x0, x1, x2, x3, x4, x5, x6⟩ := (HCL.out _ hb).seven
          have hbw := BW.out.trans (hb.mono (Nat.le_of_lt hws))
          by_cases hlt : k < m.cs.length
          · obtain ⟨A', n', c', e', hn', hl', gl⟩ := RdS.below HC.out hbw
            injection e' with e1 e2 e3
            subst e1 e2 e3
            obtain ⟨b, off, x, rfl, hbb, hlk, hc⟩ := gl k hlt
            obtain ⟨c0, c1⟩ := hc.two
            have HB3 := Lib.hid hb
            have hnx := cars_next hd.out hlk
            unfold carB at hnx
            have hal := fun o => (World.cell?_alloc_lt wq o ⟨w.heap.size, 0, none⟩ (block_lt_of_cell x0)).trans x0
            cases q1 : inB (-3) x.p (m.wd + 3)
            · have HN := Lib.hid (show R = false by rw [hnx, q1]; rfl)
              have Q1 := Lib.hid q1
              have HBW := Lib.hid hbw
              clear hb hd hlk hc gl hnx hbw
              go_wp2_with (go_at_call 47; refine (within_s _ _ _ _).mono ?_; rintro e w' ⟨rfl, rfl⟩; rw [Q1.out])
              go_ret
              exact ⟨ret_bool HN.out.symm, HBW.out.alloc HBW.out.size _⟩
            · have Q1 := Lib.hid q1
              have HBW := Lib.hid hbw
              cases q2 : x.i
              · rw [q2] at c0
                by_cases q3 : x.p = 0
                · have HN := Lib.hid (show R = (carsB m.wd (m.cs.drop (k + 1)) && (infsB m.wd 0 m.ls && (risB m.dr && parsB m.ls.length [] (m.fr.flatten ++ (m.bk.flatten ++ m.dr))))) by rw [hnx, q1, q2, decide_eq_true q3]; rfl)
                  have q4 : (x.p != 0) = false := by simpa using q3
                  clear hb hd hlk hc gl hnx hbw q3
                  go_wp2_with (go_at_call 47; refine (within_s _ _ _ _).mono ?_; rintro e w' ⟨rfl, rfl⟩; rw [Q1.out])
                  exact ⟨⟨k + 1, _, rfl, by omega, by go_num, HN.out, HB3.out.alloc HB3.out.size _⟩, by simp [intOf]; omega⟩
                · have HN := Lib.hid (show R = false by rw [hnx, q1, q2, decide_eq_false q3]; rfl)
                  have q4 : (x.p != 0) = true := by simpa using q3
                  clear hb hd hlk hc gl hnx hbw
                  go_wp2_with (go_at_call 47; refine (within_s _ _ _ _).mono ?_; rintro e w' ⟨rfl, rfl⟩; rw [Q1.out])
                  go_ret
                  exact ⟨ret_bool HN.out.symm, HBW.out.alloc HBW.out.size _⟩
              · rw [q2] at c0
                have HN := Lib.hid (show R = (carsB m.wd (m.cs.drop (k + 1)) && (infsB m.wd 0 m.ls && (risB m.dr && parsB m.ls.length [] (m.fr.flatten ++ (m.bk.flatten ++ m.dr))))) by rw [hnx, q1, q2]; rfl)
                clear hb hd hlk hc gl hnx hbw
                go_wp2_with (go_at_call 47; refine (within_s _ _ _ _).mono ?_; rintro e w' ⟨rfl, rfl⟩; rw [Q1.out])
                exact ⟨⟨k + 1, _, rfl, by omega, by go_num, HN.out, HB3.out.alloc HB3.out.size _⟩, by simp [intOf]; omega⟩
          · have HR3 := Lib.hid (show R = (infsB m.wd ((0 : Nat) : Int) (m.ls.drop 0) && (risB m.dr && parsB m.ls.length [] (m.fr.flatten ++ (m.bk.flatten ++ m.dr)))) by rw [hd.out, List.drop_of_length_le (by omega)]; rfl)
            have HB3 := Lib.hid hb
            clear hb hd HR2 HB2
            go_wp2
            clear x0 x1 x2 x3 x4 x5 x6
            go_loopw [91] (fun i wz => ∃ (k : Nat) (W4 : World), W4 = wz ∧ k ≤ m.ls.length ∧ i = .int .i64 k ∧ Hid (R = (infsB m.wd (k : Int) (m.ls.drop k) && (risB m.dr && parsB m.ls.length [] (m.fr.flatten ++ (m.bk.flatten ++ m.dr))))) ∧ Below W0.heap.size W0 W4) (fun i _ => m.ls.length - (intOf i).toNat)
            case atStart => exact ⟨0, _, rfl, Nat.zero_le _, rfl, HR3.out, HB3.out⟩
            case round =>
              obtain ⟨k, wz, hwr, hk, rfl, hd, hb⟩ := hrel
              subst hwr
              obtain ⟨x0, x1, x2, x3, x4, x5, x6⟩ := (HCL.out _ hb).seven
              have hbw := BW.out.trans (hb.mono (Nat.le_of_lt hws))
              by_cases hlt : k < m.ls.length
              · obtain ⟨b, off, x, A5, c5, rfl, hbb, hlk, hc, hs, hcap⟩ := (RdIs.below HI.out hbw).at_cap hlt
                obtain ⟨c0, c1, c2, c3, c4, c5'⟩ := hc.six
                have HB4 := Lib.hid hb
                have HBW := Lib.hid hbw
                have hnx := infs_next hd.out hlk
                have hal := fun o => (World.cell?_alloc_lt wz o ⟨w.heap.size, 0, none⟩ (block_lt_of_cell x0)).trans x0
                have HS := fun o => Lib.hid (hs.up' (hbw.alloc hbw.size o |> fun h => ((Below.refl w.heap.size wz).alloc hbw.size o)) (by simp; have := hbw.size; omega))
                have hinf := fun o => isInfo_any x A5 c5 hcap (k : Int) m.wd w.heap.size (wz.alloc o) (by omega) (by omega) wb0 wb1 (hal o) (HS o).out
                cases q1 : okInf m.wd (k : Int) x
                · have HN := Lib.hid (show R = false by rw [hnx, q1]; rfl)
                  simp only [q1] at hinf
                  have HINF := Lib.hid hinf
                  clear hb hd hlk hc hnx hbw hs hinf HS
                  go_wp2_with fail
                  refine (HINF.out _).mono ?_
                  rintro e w5 ⟨rfl, hb5⟩
                  have HB5 := Lib.hid ((HBW.out.alloc HBW.out.size (.cells #[.int .i64 x.k, .int .i64 x.y, .int .i64 x.b, .int .i64 x.p, .int .i64 x.d, .slice A5 x.ps.length c5] 78)).trans (hb5.mono (by simp; have := HBW.out.size; omega)))
                  clear hb5
                  go_wp2
                  go_ret
                  exact ⟨ret_bool HN.out.symm, HB5.out⟩
                · have HN := Lib.hid (show R = (infsB m.wd ((k + 1 : Nat) : Int) (m.ls.drop (k + 1)) && (risB m.dr && parsB m.ls.length [] (m.fr.flatten ++ (m.bk.flatten ++ m.dr)))) by rw [hnx, q1, show ((k + 1 : Nat) : Int) = (k : Int) + 1 by omega]; rfl)
                  simp only [q1] at hinf
                  have HINF := Lib.hid hinf
                  clear hb hd hlk hc hnx hbw hs hinf HS
                  go_wp2_with fail
                  refine (HINF.out _).mono ?_
                  rintro e w5 ⟨rfl, hb5⟩
                  have HB5 := Lib.hid ((HB4.out.alloc HB4.out.size (.cells #[.int .i64 x.k, .int .i64 x.y, .int .i64 x.b, .int .i64 x.p, .int .i64 x.d, .slice A5 x.ps.length c5] 78)).trans (hb5.mono (by simp; have := HB4.out.size; omega)))
                  clear hb5 hal
                  go_wp2
                  exact ⟨⟨k + 1, _, rfl, by omega, by go_num, HN.out, HB5.out⟩, by simp [intOf]; omega⟩
              · have HR4 := Lib.hid (show R = (risAt m.dr 0 && parsB m.ls.length [] (m.fr.flatten ++ (m.bk.flatten ++ m.dr))) by rw [hd.out, List.drop_of_length_le (by omega)]; rfl)
                have HB4 := Lib.hid hb
                clear hb hd HR3 HB3
                go_wp2
                clear x0 x1 x2 x3 x4 x5 x6
                go_loopw [104] (fun i wy => ∃ (k : Nat) (W5 : World), W5 = wy ∧ k ≤ m.dr.length ∧ i = .int .i64 k ∧ Hid (R = (risAt m.dr k && parsB m.ls.length [] (m.fr.flatten ++ (m.bk.flatten ++ m.dr)))) ∧ Below W0.heap.size W0 W5) (fun i _ => m.dr.length - (intOf i).toNat)
                case atStart => exact ⟨0, _, rfl, Nat.zero_le _, rfl, HR4.out, HB4.out⟩
                case round =>
                  obtain ⟨k, wy, hwr, hk, rfl, hd, hb⟩ := hrel
                  subst hwr
                  have hcw := HCL.out _ hb
                  have hbw := BW.out.trans (hb.mono (Nat.le_of_lt hws))
                  have HBW := Lib.hid hbw
                  by_cases hlt : k < m.dr.length
                  · obtain ⟨b, off, y, rfl, hbb, hlk, hcy⟩ := (HD.out.below hbw).at_ hlt
                    have e0 := fun X => wgrow_cell (x := X) hcy
                    have f6 := fun X => wgrow_cell (x := X) hcw.seven.2.2.2.2.2.2
                    have HB5 := Lib.hid hb
                    by_cases hk0 : k = 0
                    · have HT := Lib.hid (show R = (risAt m.dr (k + 1) && parsB m.ls.length [] (m.fr.flatten ++ (m.bk.flatten ++ m.dr))) by subst hk0; rw [hd.out, risAt_one hlk])
                      have hg : decide (0 < k) = false := by simp; omega
                      clear hb hd hk0 hbw hcw
                      go_wp2
                      refine wp_region_grow (by kernel_rfl) (by kernel_rfl) ?_
                      repeat (go_big_quiet_step (fail))
                      refine wpQuiet_nil ?_
                      intro wu hbu
                      have HB6 := Lib.hid (HB5.out.trans (hbu.mono HB5.out.size))
                      clear hbu
                      go_wp2
                      exact ⟨⟨k + 1, _, rfl, by omega, by go_num, HT.out, HB6.out⟩, by simp [intOf]; omega⟩
                    · obtain ⟨b', off', x, e', hbb', hlk', hc'⟩ := (HD.out.below hbw).at_ (show k - 1 < m.dr.length by omega)
                      injection e' with e'
                      injection e' with e1 e2
                      subst e1 e2
                      have hkc : ((k - 1 : Nat) : Int) = (k : Int) - 1 := by omega
                      have f0 := fun X => wgrow_cell (x := X) hc'
                      have hw1 : IntKind.i64.wrap ((k : Int) - 1) = (k : Int) - 1 := IntWalk.i64_in _ (by omega)
                      have hnx := risAt_next (by omega) hlk' hlk
                      have hg : decide (0 < k) = true := by simp; omega
                      by_cases hxy : x < y
                      · have HT := Lib.hid (show R = (risAt m.dr (k + 1) && parsB m.ls.length [] (m.fr.flatten ++ (m.bk.flatten ++ m.dr))) by rw [hd.out, hnx, decide_eq_true hxy]; rfl)
                        have g1 : decide (y ≤ x) = false := by simp; omega
                        clear hb hd hnx hbw hcw
                        go_wp2
                        refine wp_region_grow (by kernel_rfl) (by kernel_rfl) ?_
                        repeat (go_big_quiet_step (fail))
                        refine wpQuiet_nil ?_
                        intro wu hbu
                        have HB6 := Lib.hid (HB5.out.trans (hbu.mono HB5.out.size))
                        clear hbu
                        go_wp2
                        exact ⟨⟨k + 1, _, rfl, by omega, by go_num, HT.out, HB6.out⟩, by simp [intOf]; omega⟩
                      · have HT := Lib.hid (show R = false by rw [hd.out, hnx, decide_eq_false hxy]; rfl)
                        have g1 : decide (y ≤ x) = true := by simp; omega
                        clear hb hd hnx hbw hcw
                        go_wp2
                        refine wp_region_grow (by kernel_rfl) (by kernel_rfl) ?_
                        repeat (go_big_quiet_step (fail))
                        refine wpQuiet_nil ?_
                        intro wu hbu
                        have HB6 := Lib.hid (BW.out.trans ((HB5.out.trans (hbu.mono HB5.out.size)).mono (Nat.le_of_lt hws)))
                        clear hbu
                        go_wp2
                        go_ret
                        exact ⟨ret_bool HT.out.symm, HB6.out⟩
                  · have HT := Lib.hid (show R = parsB m.ls.length [] (m.fr.flatten ++ (m.bk.flatten ++ m.dr)) by rw [hd.out, risAt_end (by omega)]; rfl)
                    have hcc := Lib.hid hcw
                    clear hb hd hbw hcw
                    go_wp2_with fail
                    have hu := HBW.out.size
                    refine (areApart_any m _ _ _ _ _ _ _ hcc.out (RdLL.more (RdLL.below HF.out HBW.out) hu) (RdLL.more (RdLL.below HG.out HBW.out) hu) (RdIs.more (RdIs.below HI.out HBW.out) hu) ((HD.out.below HBW.out).more hu) HDC.out l1 l2 (by omega)).mono ?_
                    rintro e w6 ⟨rfl, hb6⟩
                    rw [← HT.out]
                    have HB6 := Lib.hid (HBW.out.trans (hb6.mono HBW.out.size))
                    clear hb6
                    go_wp2
                    go_ret
                    exact ⟨rfl, HB6.out⟩

end Go.Proofs.YtccdnmafakaleaaDoor
