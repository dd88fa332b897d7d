/-
  Rows of operations: what the laws' helpers do.
-/
import Derived.Test.YtolcgopfbbmjgaaOp
import Derived.Test.YtolcgopfbbmjgaaMark
import Derived.Test.YtolcgopfbbmjgaaNst
namespace Go.Proofs.Ytolcgopfbbmjgaa
set_option linter.unusedVariables false
set_option linter.unusedSimpArgs false
open Go.RowKit

theorem opr_ext {x y : Opr} : decide (x = y) = (decide (x.k = y.k) && (decide (x.d = y.d) && ((decide (x.fb = y.fb) && decide (x.fa = y.fa)) && ((decide (x.tb = y.tb) && decide (x.ta = y.ta)) && (decide (x.c = y.c) && decide (x.r = y.r)))))) := by
  cases x; cases y
  rw [Bool.eq_iff_iff]
  simp
  intro _ _
  exact ⟨fun ⟨a, b, c, d, e, f⟩ => ⟨⟨a, b⟩, ⟨c, d⟩, e, f⟩, fun ⟨⟨a, b⟩, ⟨c, d⟩, e, f⟩ => ⟨a, b, c, d, e, f⟩⟩
set_option maxHeartbeats 2000000 in
theorem eqOp_any (x y : Opr) (w : World) : Calls Try.prog 25 #[x.v, y.v] w fun e w' => e = .returned (.bool (decide (x = y))) ∧ Below w.heap.size w w' := by
  rw [opr_ext]
  obtain ⟨k, d, fb, fa, tb, ta, c, r⟩ := x
  obtain ⟨k', d', fb', fa', tb', ta', c', r'⟩ := y
  simp only
  have HN := Lib.hid (fun w' => eqNeedle_any fb fa fb' fa' w')
  have HM := Lib.hid (fun w' => eqNeedle_any tb ta tb' ta' w')
  generalize (decide (fb = fb') && decide (fa = fa')) = B1 at *
  generalize (decide (tb = tb') && decide (ta = ta')) = B2 at *
  by_cases h1 : k = k'
  case neg =>
    have h2 : (k != k') = true := by simpa using h1
    have h3 : decide (k = k') = false := by simpa using h1
    rw [h3]
    clear h1 h3
    go_enter Try.func25, Try.ntmps25
    go_wp2
    go_ret
    exact ⟨ret_bool (by simp), ((Below.refl _ _).alloc (Nat.le_refl _) _).alloc (by simp) _⟩
  subst h1
  by_cases h1 : d = d'
  case neg =>
    have h2 : (d != d') = true := by simpa using h1
    have h3 : decide (d = d') = false := by simpa using h1
    rw [h3]
    clear h1 h3
    go_enter Try.func25, Try.ntmps25
    go_wp2
    go_ret
    exact ⟨ret_bool (by simp), ((Below.refl _ _).alloc (Nat.le_refl _) _).alloc (by simp) _⟩
  subst h1
  simp only [decide_true, Bool.true_and]
  have HB0 := Lib.hid (show Below w.heap.size w ((w.alloc (.cells #[.int .i64 k, .int .i64 d, .int .i64 fb, .int .i64 fa, .int .i64 tb, .int .i64 ta, .int .i64 c, .int .i64 r] 55)).alloc (.cells #[.int .i64 k, .int .i64 d, .int .i64 fb', .int .i64 fa', .int .i64 tb', .int .i64 ta', .int .i64 c', .int .i64 r'] 55)) from ((Below.refl _ _).alloc (Nat.le_refl _) _).alloc (by simp) _)
  have hca : CellsAt ((w.alloc (.cells #[.int .i64 k, .int .i64 d, .int .i64 fb, .int .i64 fa, .int .i64 tb, .int .i64 ta, .int .i64 c, .int .i64 r] 55)).alloc (.cells #[.int .i64 k, .int .i64 d, .int .i64 fb', .int .i64 fa', .int .i64 tb', .int .i64 ta', .int .i64 c', .int .i64 r'] 55)) w.heap.size 0 [.int .i64 k, .int .i64 d, .int .i64 fb, .int .i64 fa, .int .i64 tb, .int .i64 ta, .int .i64 c, .int .i64 r] := by
    intro j u hu; rcases j with _ | _ | _ | _ | _ | _ | _ | _ | j <;> simp at hu <;> subst hu <;> simp [go_sem]
  have hcb : CellsAt ((w.alloc (.cells #[.int .i64 k, .int .i64 d, .int .i64 fb, .int .i64 fa, .int .i64 tb, .int .i64 ta, .int .i64 c, .int .i64 r] 55)).alloc (.cells #[.int .i64 k, .int .i64 d, .int .i64 fb', .int .i64 fa', .int .i64 tb', .int .i64 ta', .int .i64 c', .int .i64 r'] 55)) (w.heap.size + 1) 0 [.int .i64 k, .int .i64 d, .int .i64 fb', .int .i64 fa', .int .i64 tb', .int .i64 ta', .int .i64 c', .int .i64 r'] := by
    intro j u hu; rcases j with _ | _ | _ | _ | _ | _ | _ | _ | j <;> simp at hu <;> subst hu <;> simp [go_sem]
  have HCA := Lib.hid hca
  have HCB := Lib.hid hcb
  clear hca hcb
  by_cases hc : c = c' ∧ r = r'
  case neg =>
    have hcr : (decide (c = c') && decide (r = r')) = false := by rw [Bool.eq_false_iff]; simpa using hc
    rw [hcr]
    cases B1
    · go_enter Try.func25, Try.ntmps25
      go_wp2_with fail
      refine (HN.out _).mono ?_
      rintro e w1 ⟨rfl, hb⟩
      have HB := Lib.hid (HB0.out.trans (hb.mono HB0.out.size))
      clear hb
      go_wp2
      go_ret
      exact ⟨rfl, HB.out⟩
    cases B2
    · go_enter Try.func25, Try.ntmps25
      -- behind both comparisons of needles
      go_wp2_with fail
      refine (HN.out _).mono ?_
      rintro e w1 ⟨rfl, hb⟩
      have HB1 := Lib.hid (HB0.out.trans (hb.mono HB0.out.size))
      obtain ⟨y0, y1, y2, y3, y4, y5, y6, y7⟩ := (HCA.out.below hb (by simp; try omega)).eight
      obtain ⟨x0, x1, x2, x3, x4, x5, x6, x7⟩ := (HCB.out.below hb (by simp; try omega)).eight
      have HCA1 := Lib.hid (HCA.out.below hb (by simp; try omega))
      have HCB1 := Lib.hid (HCB.out.below hb (by simp; try omega))
      have HZ1 := Lib.hid (show w.heap.size + 2 ≤ w1.heap.size by have := hb.size; simp at this; omega)
      clear hb
      go_wp2_with fail
      refine (HM.out _).mono ?_
      rintro e w2 ⟨rfl, hb⟩
      have HB := Lib.hid (HB1.out.trans (hb.mono HB1.out.size))
      clear y0 y1 y2 y3 y4 y5 y6 y7 x0 x1 x2 x3 x4 x5 x6 x7
      obtain ⟨y0, y1, y2, y3, y4, y5, y6, y7⟩ := (HCA1.out.below hb (by have := HZ1.out; omega)).eight
      obtain ⟨x0, x1, x2, x3, x4, x5, x6, x7⟩ := (HCB1.out.below hb (by have := HZ1.out; omega)).eight
      clear hb
      go_wp2
      go_ret
      exact ⟨rfl, HB.out⟩
    by_cases h1 : c = c'
    · have h2 : ¬ r = r' := fun h => hc ⟨h1, h⟩
      have h3 : (r != r') = true := by simpa using h2
      subst h1
      clear hc hcr h2
      go_enter Try.func25, Try.ntmps25
      -- behind both comparisons of needles
      go_wp2_with fail
      refine (HN.out _).mono ?_
      rintro e w1 ⟨rfl, hb⟩
      have HB1 := Lib.hid (HB0.out.trans (hb.mono HB0.out.size))
      obtain ⟨y0, y1, y2, y3, y4, y5, y6, y7⟩ := (HCA.out.below hb (by simp; try omega)).eight
      obtain ⟨x0, x1, x2, x3, x4, x5, x6, x7⟩ := (HCB.out.below hb (by simp; try omega)).eight
      have HCA1 := Lib.hid (HCA.out.below hb (by simp; try omega))
      have HCB1 := Lib.hid (HCB.out.below hb (by simp; try omega))
      have HZ1 := Lib.hid (show w.heap.size + 2 ≤ w1.heap.size by have := hb.size; simp at this; omega)
      clear hb
      go_wp2_with fail
      refine (HM.out _).mono ?_
      rintro e w2 ⟨rfl, hb⟩
      have HB := Lib.hid (HB1.out.trans (hb.mono HB1.out.size))
      clear y0 y1 y2 y3 y4 y5 y6 y7 x0 x1 x2 x3 x4 x5 x6 x7
      obtain ⟨y0, y1, y2, y3, y4, y5, y6, y7⟩ := (HCA1.out.below hb (by have := HZ1.out; omega)).eight
      obtain ⟨x0, x1, x2, x3, x4, x5, x6, x7⟩ := (HCB1.out.below hb (by have := HZ1.out; omega)).eight
      clear hb
      go_wp2
      go_ret
      exact ⟨rfl, HB.out⟩
    · have h3 : (c != c') = true := by simpa using h1
      clear hc hcr h1
      go_enter Try.func25, Try.ntmps25
      -- behind both comparisons of needles
      go_wp2_with fail
      refine (HN.out _).mono ?_
      rintro e w1 ⟨rfl, hb⟩
      have HB1 := Lib.hid (HB0.out.trans (hb.mono HB0.out.size))
      obtain ⟨y0, y1, y2, y3, y4, y5, y6, y7⟩ := (HCA.out.below hb (by simp; try omega)).eight
      obtain ⟨x0, x1, x2, x3, x4, x5, x6, x7⟩ := (HCB.out.below hb (by simp; try omega)).eight
      have HCA1 := Lib.hid (HCA.out.below hb (by simp; try omega))
      have HCB1 := Lib.hid (HCB.out.below hb (by simp; try omega))
      have HZ1 := Lib.hid (show w.heap.size + 2 ≤ w1.heap.size by have := hb.size; simp at this; omega)
      clear hb
      go_wp2_with fail
      refine (HM.out _).mono ?_
      rintro e w2 ⟨rfl, hb⟩
      have HB := Lib.hid (HB1.out.trans (hb.mono HB1.out.size))
      clear y0 y1 y2 y3 y4 y5 y6 y7 x0 x1 x2 x3 x4 x5 x6 x7
      obtain ⟨y0, y1, y2, y3, y4, y5, y6, y7⟩ := (HCA1.out.below hb (by have := HZ1.out; omega)).eight
      obtain ⟨x0, x1, x2, x3, x4, x5, x6, x7⟩ := (HCB1.out.below hb (by have := HZ1.out; omega)).eight
      clear hb
      go_wp2
      go_ret
      exact ⟨rfl, HB.out⟩
  obtain ⟨rfl, rfl⟩ := hc
  simp only [decide_true, Bool.and_true]
  cases B1
  · go_enter Try.func25, Try.ntmps25
    go_wp2_with fail
    refine (HN.out _).mono ?_
    rintro e w1 ⟨rfl, hb⟩
    have HB := Lib.hid (HB0.out.trans (hb.mono HB0.out.size))
    clear hb
    go_wp2
    go_ret
    exact ⟨rfl, HB.out⟩
  cases B2
  all_goals
    go_enter Try.func25, Try.ntmps25
    -- behind both comparisons of needles
    go_wp2_with fail
    refine (HN.out _).mono ?_
    rintro e w1 ⟨rfl, hb⟩
    have HB1 := Lib.hid (HB0.out.trans (hb.mono HB0.out.size))
    obtain ⟨y0, y1, y2, y3, y4, y5, y6, y7⟩ := (HCA.out.below hb (by simp; try omega)).eight
    obtain ⟨x0, x1, x2, x3, x4, x5, x6, x7⟩ := (HCB.out.below hb (by simp; try omega)).eight
    have HCA1 := Lib.hid (HCA.out.below hb (by simp; try omega))
    have HCB1 := Lib.hid (HCB.out.below hb (by simp; try omega))
    have HZ1 := Lib.hid (show w.heap.size + 2 ≤ w1.heap.size by have := hb.size; simp at this; omega)
    clear hb
    go_wp2_with fail
    refine (HM.out _).mono ?_
    rintro e w2 ⟨rfl, hb⟩
    have HB := Lib.hid (HB1.out.trans (hb.mono HB1.out.size))
    clear y0 y1 y2 y3 y4 y5 y6 y7 x0 x1 x2 x3 x4 x5 x6 x7
    obtain ⟨y0, y1, y2, y3, y4, y5, y6, y7⟩ := (HCA1.out.below hb (by have := HZ1.out; omega)).eight
    obtain ⟨x0, x1, x2, x3, x4, x5, x6, x7⟩ := (HCB1.out.below hb (by have := HZ1.out; omega)).eight
    clear hb
    go_wp2
    go_ret
    exact ⟨rfl, HB.out⟩

set_option maxHeartbeats 2000000 in
theorem toOp_any (x : Opr) (w : World) : Calls Try.prog 22 #[x.v] w fun e w' => e = .returned x.v ∧ Below w.heap.size w w' := by
  obtain ⟨k, d, fb, fa, tb, ta, c, r⟩ := x
  have HQ1 := Lib.hid (fun w' => toNeedle_any fb fa w')
  have HQ2 := Lib.hid (fun w' => toNeedle_any tb ta w')
  go_enter Try.func22, Try.ntmps22
  go_wp2_with fail
  refine (HQ1.out _).mono ?_
  rintro e w1 ⟨rfl, hb⟩
  have hz1 : w.heap.size + 3 ≤ w1.heap.size := by have := hb.size; simp at this; omega
  have hx : CellsAt w1 w.heap.size 0 [.int .i64 k, .int .i64 d, .int .i64 fb, .int .i64 fa, .int .i64 tb, .int .i64 ta, .int .i64 c, .int .i64 r] := by
    refine CellsAt.below ?_ hb (by simp; try omega)
    intro j u hu; rcases j with _ | _ | _ | _ | _ | _ | _ | _ | j <;> simp at hu <;> subst hu <;> simp [go_sem]
  have hr : CellsAt w1 (w.heap.size + 1) 0 [.int .i64 0, .int .i64 0, .int .i64 0, .int .i64 0, .int .i64 0, .int .i64 0, .int .i64 0, .int .i64 0] := by
    refine CellsAt.below ?_ hb (by simp; try omega)
    intro j u hu; rcases j with _ | _ | _ | _ | _ | _ | _ | _ | j <;> simp at hu <;> subst hu <;> simp [go_sem]
  have hv : CellsAt w1 (w.heap.size + 1 + 1) 0 [.int .i64 k, .int .i64 d, .int .i64 0, .int .i64 0, .int .i64 0, .int .i64 0, .int .i64 0, .int .i64 0] := by
    refine CellsAt.below ?_ hb (by simp; try omega)
    intro j u hu; rcases j with _ | _ | _ | _ | _ | _ | _ | _ | j <;> simp at hu <;> subst hu <;> simp [go_sem]
  have hfr : ∀ b o, w.heap.size ≤ b → b < w.heap.size + 3 → w1.frozen? ⟨b, o, none⟩ = false := by
    intro b o h1 h2
    refine ((bcell hb).2 b o (by simp; omega)).trans ?_
    obtain rfl | rfl | rfl : b = w.heap.size ∨ b = w.heap.size + 1 ∨ b = w.heap.size + 1 + 1 := by omega
    all_goals simp [go_sem]
  have HB1 := Lib.hid (show Below w.heap.size w w1 from by
    refine Below.trans ?_ (hb.mono (by simp; try omega))
    repeat (first | exact Below.refl _ _ | refine Below.alloc ?_ (by simp; try omega) _ | refine Below.setCell ?_ (by simp; try omega) _))
  have HX := Lib.hid hx
  have HR := Lib.hid hr
  have HV := Lib.hid hv
  have HF := Lib.hid hfr
  obtain ⟨-, -, -, -, x4, x5, -, -⟩ := hx.eight
  obtain ⟨-, -, v2, v3, -, -, -, -⟩ := hv.eight
  have f22 := hfr (w.heap.size + 1 + 1) 2 (by omega) (by omega)
  have f23 := hfr (w.heap.size + 1 + 1) 3 (by omega) (by omega)
  clear hb hx hr hv hfr
  go_wp2_with fail
  refine (HQ2.out _).mono ?_
  rintro e w2 ⟨rfl, hb⟩
  have hz2 : w1.heap.size ≤ w2.heap.size := by have := hb.size; simpa using this
  have hv2 := (((HV.out.set 2 (.int .i64 fb)).set 3 (.int .i64 fa))).below hb (by simp; try omega)
  have hx2 := ((HX.out.far (p := ⟨w.heap.size + 1 + 1, 0 + 2, none⟩) (by simp; try omega) (.int .i64 fb)).far (p := ⟨w.heap.size + 1 + 1, 0 + 3, none⟩) (by simp; try omega) (.int .i64 fa)).below hb (by simp; try omega)
  have hr2 := ((HR.out.far (p := ⟨w.heap.size + 1 + 1, 0 + 2, none⟩) (by simp; try omega) (.int .i64 fb)).far (p := ⟨w.heap.size + 1 + 1, 0 + 3, none⟩) (by simp; try omega) (.int .i64 fa)).below hb (by simp; try omega)
  have g2 : ∀ o, w2.frozen? ⟨w.heap.size + 1 + 1, o, none⟩ = false := fun o => ((bcell hb).2 _ o (by simp; try omega)).trans (by simp [go_sem]; exact HF.out _ o (by omega) (by omega))
  have g1 : ∀ o, w2.frozen? ⟨w.heap.size + 1, o, none⟩ = false := fun o => ((bcell hb).2 _ o (by simp; try omega)).trans (by simp [go_sem]; exact HF.out _ o (by omega) (by omega))
  have HB2 := Lib.hid (show Below w.heap.size w w2 from (HB1.out.trans (((Below.refl w.heap.size w1).setCell (by simp; try omega) _).setCell (by simp; try omega) _)).trans (hb.mono (by simp; try omega)))
  clear x4 x5 v2 v3 f22 f23 hb
  obtain ⟨-, -, -, -, -, -, x6, x7⟩ := hx2.eight
  obtain ⟨v0, v1, v2, v3, v4, v5, v6, v7⟩ := hv2.eight
  obtain ⟨r0, r1, r2, r3, r4, r5, r6, r7⟩ := hr2.eight
  have HRC := Lib.hid hr2
  clear hx2 hv2 hr2
  go_wp2
  have HBF : Hid (Below w.heap.size w ((((((((((((w2.setCell ⟨w.heap.size + 1 + 1, 4, none⟩ (.int .i64 tb)).setCell ⟨w.heap.size + 1 + 1, 5, none⟩ (.int .i64 ta)).setCell ⟨w.heap.size + 1 + 1, 6, none⟩ (.int .i64 c)).setCell ⟨w.heap.size + 1 + 1, 7, none⟩ (.int .i64 r)).setCell ⟨w.heap.size + 1, 0, none⟩ (.int .i64 k)).setCell ⟨w.heap.size + 1, 1, none⟩ (.int .i64 d)).setCell ⟨w.heap.size + 1, 2, none⟩ (.int .i64 fb)).setCell ⟨w.heap.size + 1, 3, none⟩ (.int .i64 fa)).setCell ⟨w.heap.size + 1, 4, none⟩ (.int .i64 tb)).setCell ⟨w.heap.size + 1, 5, none⟩ (.int .i64 ta)).setCell ⟨w.heap.size + 1, 6, none⟩ (.int .i64 c)).setCell ⟨w.heap.size + 1, 7, none⟩ (.int .i64 r))) :=
    (((((((((((HB2.out.setCell (by simp; try omega) _).setCell (by simp; try omega) _).setCell (by simp; try omega) _).setCell (by simp; try omega) _).setCell (by simp; try omega) _).setCell (by simp; try omega) _).setCell (by simp; try omega) _).setCell (by simp; try omega) _).setCell (by simp; try omega) _).setCell (by simp; try omega) _).setCell (by simp; try omega) _).setCell (by simp; try omega) _
  have HCF : CellsAt ((((((((((((w2.setCell ⟨w.heap.size + 1 + 1, 4, none⟩ (.int .i64 tb)).setCell ⟨w.heap.size + 1 + 1, 5, none⟩ (.int .i64 ta)).setCell ⟨w.heap.size + 1 + 1, 6, none⟩ (.int .i64 c)).setCell ⟨w.heap.size + 1 + 1, 7, none⟩ (.int .i64 r)).setCell ⟨w.heap.size + 1, 0, none⟩ (.int .i64 k)).setCell ⟨w.heap.size + 1, 1, none⟩ (.int .i64 d)).setCell ⟨w.heap.size + 1, 2, none⟩ (.int .i64 fb)).setCell ⟨w.heap.size + 1, 3, none⟩ (.int .i64 fa)).setCell ⟨w.heap.size + 1, 4, none⟩ (.int .i64 tb)).setCell ⟨w.heap.size + 1, 5, none⟩ (.int .i64 ta)).setCell ⟨w.heap.size + 1, 6, none⟩ (.int .i64 c)).setCell ⟨w.heap.size + 1, 7, none⟩ (.int .i64 r)) (w.heap.size + 1) 0 [.int .i64 k, .int .i64 d, .int .i64 fb, .int .i64 fa, .int .i64 tb, .int .i64 ta, .int .i64 c, .int .i64 r] := by
    have h := (((((((((((HRC.out.far (p := ⟨w.heap.size + 1 + 1, 4, none⟩) (by simp) (.int .i64 tb)).far (p := ⟨w.heap.size + 1 + 1, 5, none⟩) (by simp) (.int .i64 ta)).far (p := ⟨w.heap.size + 1 + 1, 6, none⟩) (by simp) (.int .i64 c)).far (p := ⟨w.heap.size + 1 + 1, 7, none⟩) (by simp) (.int .i64 r)).set 0 (.int .i64 k)).set 1 (.int .i64 d)).set 2 (.int .i64 fb)).set 3 (.int .i64 fa)).set 4 (.int .i64 tb)).set 5 (.int .i64 ta)).set 6 (.int .i64 c)).set 7 (.int .i64 r)
    simp only [Nat.zero_add] at h
    exact h
  generalize World.setCell _ ⟨w.heap.size + 1, 7, none⟩ (.int .i64 r) = wz at HBF HCF ⊢
  obtain ⟨z0, z1, z2, z3, z4, z5, z6, z7⟩ := HCF.eight
  refine bodyPost_ret (v := (⟨k, d, fb, fa, tb, ta, c, r⟩ : Opr).v) ?_ rfl ⟨rfl, HBF.out⟩
  simp only [Nat.zero_add] at z1 z2 z3 z4 z5 z6 z7
  clear v0 v1 v2 v3 v4 v5 v6 v7 r0 r1 r2 r3 r4 r5 r6 r7 x6 x7
  simp [results, Try.results22, go_sem, z0, z1, z2, z3, z4, z5, z6, z7]

set_option maxHeartbeats 1000000 in
theorem eqOpS_any (v u : Value) (l m : List Opr) (w : World) (B : Nat) (hl : RdO w B v l) (hm : RdO w B u m) (hB : B ≤ w.heap.size) :
    Calls Try.prog 9 #[v, u] w fun x w' => x = .returned (.bool (decide (l = m))) ∧ Below w.heap.size w w' := by
  obtain ⟨A, n, c, rfl, hln, hl, gl⟩ := hl
  obtain ⟨A', n', c', rfl, hmn, hm, gm⟩ := hm
  by_cases hlen : n = n'
  · subst hlen
    go_enter Try.func9, Try.ntmps9
    go_wp2
    go_loopw [5] (fun i wr => ∃ k : Nat, k ≤ n ∧ i = .int .i64 k ∧ Hid (decide (l = m) = decide (l.drop k = m.drop k)) ∧ Below w.heap.size w wr) (fun i _ => n - (intOf i).toNat)
    case atStart => exact ⟨0, Nat.zero_le _, rfl, rfl, Below.refl _ _⟩
    case round =>
      rename_i wr
      obtain ⟨k, hk, rfl, hd, hb⟩ := hrel
      by_cases hlt : k < n
      · obtain ⟨b, off, x, rfl, hbb, hlk, hc⟩ := gl k hlt
        obtain ⟨b', off', y, rfl, hbb', hmk, hc'⟩ := gm k hlt
        obtain ⟨e0, e1, e2, e3, e4, e5, e6, e7⟩ := (hc.below hb (Nat.lt_of_lt_of_le hbb hB)).grow8
        obtain ⟨f0, f1, f2, f3, f4, f5, f6, f7⟩ := (hc'.below hb (Nat.lt_of_lt_of_le hbb' hB)).grow8
        have HB := Lib.hid hb
        have Hl := Lib.hid hlk
        have Hm := Lib.hid hmk
        clear hc hc' hlk hmk hb gl gm
        go_wp2
        refine wp_region_grow (by kernel_rfl) (by kernel_rfl) ?_
        repeat (go_big_quiet_step ((go_at_call 25; exact calls_grow (eqOp_any _ _ _))))
        refine wpQuiet_nil ?_
        intro w1 hb1
        have HB1 := HB.out.trans (hb1.mono HB.out.size)
        go_wp2
        · go_ret
          exact ⟨ret_bool (by rw [hd.out, drop_of_get Hl.out, drop_of_get Hm.out]; simp_all), HB1⟩
        · exact ⟨⟨k + 1, by omega, by go_num, by unfold Hid; rw [hd.out, drop_of_get Hl.out, drop_of_get Hm.out]; simp_all, HB1⟩, by simp [intOf]; omega⟩
      · go_wp2
        go_ret
        exact ⟨ret_bool (by rw [hd.out, List.drop_of_length_le (by have := hl.out; omega), List.drop_of_length_le (by have := hm.out; omega)]; simp), hb⟩
  · have hd1 : ((n : Int) != (n' : Int)) = true := by simp; omega
    go_enter Try.func9, Try.ntmps9
    go_wp2
    go_ret
    exact ⟨ret_bool (by symm; simp; rintro rfl; exact hlen (hl.out.symm.trans hm.out)), Below.refl _ _⟩

set_option maxHeartbeats 1000000 in
theorem toOpS_any (v : Value) (l : List Opr) (w : World) (hl : RdO w w.heap.size v l) (hlen : l.length ≤ 1048576) :
    Calls Try.prog 7 #[v] w (GivesOw w 55 8 l.length (vO l)) := by
  obtain ⟨A, n, c, rfl, hln, hl, gl⟩ := hl
  have hn : n ≤ 1048576 := by have := hl.out; omega
  clear hlen
  have hmk := fun W => run_make_rowsN (P := Try.prog) 24 55 _ 8 64 Try.underlying24 info_op .i64 .i64 n (by omega) (by omega) W
  go_enter Try.func7, Try.ntmps7
  go_wp2
  clear hmk
  go_loopw [4] (fun i wr => ∃ (k : Nat) (f : Nat → Value), k ≤ n ∧ i = .int .i64 k ∧ wr.rowIs w.heap.size 55 (n * 8) f ∧ Hid (∀ q x, q < k → l[q]? = some x → ∀ j, j < 8 → some (f (q * 8 + j)) = x.cells[j]?) ∧ Below w.heap.size w wr) (fun i _ => n - (intOf i).toNat)
  case atStart => exact ⟨0, _, Nat.zero_le _, rfl, rowIs_madeN _ _ _ _, fun j x hj => absurd hj (by omega), (Below.refl _ _).alloc (Nat.le_refl _) _⟩
  case round =>
    rename_i wr
    obtain ⟨k, f, hk, rfl, hrow, hf, hb⟩ := hrel
    by_cases hlt : k < n
    · obtain ⟨b, off, x, rfl, hbb, hlk, hc⟩ := gl k hlt
      obtain ⟨c0, c1, c2, c3, c4, c5, c6, c7⟩ := (hc.below hb hbb).eight
      have HB := Lib.hid hb
      have HR := Lib.hid hrow
      have Hl := Lib.hid hlk
      clear hc hb hrow hlk gl
      go_wp2_with (go_at_call 22; refine (toOp_any x _).mono ?_; rintro e w1 ⟨rfl, hb1⟩; have hrow := HR.out.of_block (hb1.block _ HR.out.lt); have d0 := hrow.cell (i := k * 8) (by omega); have d1 := hrow.cell (i := k * 8 + 1) (by omega); have d2 := hrow.cell (i := k * 8 + 2) (by omega); have d3 := hrow.cell (i := k * 8 + 3) (by omega); have d4 := hrow.cell (i := k * 8 + 4) (by omega); have d5 := hrow.cell (i := k * 8 + 5) (by omega); have d6 := hrow.cell (i := k * 8 + 6) (by omega); have d7 := hrow.cell (i := k * 8 + 7) (by omega); have g0 := fun i => hrow.frozen i)
      exact ⟨⟨k + 1, _, by omega, by go_num, rowIs_set8 hrow _ _ _ _ _ _ _ _ _, fill8 Hl.out rfl hf.out, below_set8 (HB.out.trans (hb1.mono HB.out.size)) (Nat.le_refl _) _ _ _ _ _ _ _ _⟩, by simp [intOf]; omega⟩
    · have HB := Lib.hid hb
      have HR := Lib.hid hrow
      clear hb hrow
      go_wp2
      go_ret
      obtain rfl : k = n := by omega
      exact ⟨.slice (some ⟨w.heap.size, 0, none⟩) k k, rfl, OwC.of_row Opr.len (by omega) HR.out hl.out (Nat.le_refl _) hln (fun q x hq hx => hf.out q x hq hx), HB.out⟩

set_option maxHeartbeats 4000000 in
set_option maxRecDepth 100000 in
theorem markO_any (v : Value) (n : Nat) (xs : List Value) (K : Int) (w : World) (lo hi : Nat) (ho : OwC w lo hi 55 8 v n xs) (hK : 0 ≤ K) (hn : K + (n : Int) * 8 ≤ 1000000000000) :
    Calls Try.prog 10 #[v, .int .i64 K] w fun e w' => e = .returned (.int .i64 (K + (n : Int) * 8)) ∧ OwC w' lo hi 55 8 v n (vM K (n * 8)) ∧ Only lo hi w w' := by
  rcases ho.2 with ⟨rfl, A, c, rfl⟩ | ⟨g, cap, cur, rfl, hlo, hhi, hg, hnc, hcap, hsz, hx⟩
  · go_enter Try.func10, Try.ntmps10
    go_wp2
    go_loopw [1, 5] (fun t i wr => t = .int .i64 K ∧ i = .int .i64 0 ∧ w = wr) (fun _ i _ => 0 - (intOf i).toNat)
    case atStart => exact ⟨rfl, rfl, rfl⟩
    case round =>
      rename_i wr
      obtain ⟨rfl, rfl, rfl⟩ := hrel
      go_wp2
      go_ret
      exact ⟨ret_int (by simp), ⟨by simp [vM], .inl ⟨rfl, A, c, rfl⟩⟩, Only.refl _ _ _⟩
  · have hrow0 : w.rowIs g 55 (cap * 8) (fun i => cur.getD i undef) := ⟨cur, hg, hsz, fun i hi => row_getD (by omega)⟩
    have HR0 := Lib.hid hrow0
    have Hnc := Lib.hid hnc
    clear hx hg hrow0 ho hsz hnc
    go_enter Try.func10, Try.ntmps10
    go_wp2
    go_loopw [1, 5] (fun t i wr => ∃ (k : Nat) (f : Nat → Value), k ≤ n ∧ i = .int .i64 k ∧ t = .int .i64 (K + (k : Int) * 8) ∧ wr.rowIs g 55 (cap * 8) f ∧ Hid (∀ j, j < k * 8 → f j = .int .i64 (K + j)) ∧ Only lo hi w wr) (fun _ i _ => n - (intOf i).toNat)
    case atStart => exact ⟨0, _, Nat.zero_le _, rfl, by simp, HR0.out, fun j hj => absurd hj (by omega), Only.refl _ _ _⟩
    case round =>
      rename_i wr
      obtain ⟨k, f, hk, rfl, rfl, hrow, hf, hO⟩ := hrel
      by_cases hlt : k < n
      · have hcc := Hnc.out
        have d0 := hrow.cell (i := k * 8) (by omega)
        have d1 := hrow.cell (i := k * 8 + 1) (by omega)
        have d2 := hrow.cell (i := k * 8 + 2) (by omega)
        have d3 := hrow.cell (i := k * 8 + 3) (by omega)
        have d4 := hrow.cell (i := k * 8 + 4) (by omega)
        have d5 := hrow.cell (i := k * 8 + 5) (by omega)
        have d6 := hrow.cell (i := k * 8 + 6) (by omega)
        have d7 := hrow.cell (i := k * 8 + 7) (by omega)
        have g0 := fun i => hrow.frozen i
        have HR := Lib.hid hrow
        have HO := Lib.hid hO
        clear hrow hO hcc
        go_wp2
        exact ⟨⟨k + 1, _, by omega, by go_num, by first | go_num | (congr 1; push_cast; omega), ((((((((HR.out.set _ _).set _ _).set _ _).set _ _).set _ _).set _ _).set _ _).set _ _), fun j hj => mark_fill8 hf.out j hj, ((((((((HO.out.setCell hlo hhi _).setCell hlo hhi _).setCell hlo hhi _).setCell hlo hhi _).setCell hlo hhi _).setCell hlo hhi _).setCell hlo hhi _).setCell hlo hhi _)⟩, by simp [intOf]; omega⟩
      · have HR := Lib.hid hrow
        have HO := Lib.hid hO
        clear hrow hO
        obtain rfl : k = n := by omega
        go_wp2
        go_ret
        refine ⟨rfl, ⟨by simp [vM], .inr ?_⟩, HO.out⟩
        obtain ⟨cur', h1, h2, h3⟩ := HR.out
        have hcc : k * 8 ≤ cap * 8 := Nat.mul_le_mul_right _ Hnc.out
        exact ⟨g, cap, cur', rfl, hlo, hhi, h1, Hnc.out, hcap, h2, take_vM hcc h2 h3 hf.out⟩

set_option maxHeartbeats 4000000 in
set_option maxRecDepth 100000 in
theorem heldO_any (v : Value) (n : Nat) (K : Int) (w : World) (lo hi : Nat) (ho : OwC w lo hi 55 8 v n (vM K (n * 8))) (hK : 0 ≤ K) (hn : K + (n : Int) * 8 ≤ 1000000000000) :
    Calls Try.prog 11 #[v, .int .i64 K] w fun e w' => e = .returned (.int .i64 (K + (n : Int) * 8)) ∧ w = w' := by
  obtain ⟨A, c, rfl, hln, gl⟩ := ho.cells
  clear ho
  go_enter Try.func11, Try.ntmps11
  go_wp2
  go_loop [1, 5] (fun t i => ∃ k : Nat, k ≤ n ∧ i = .int .i64 k ∧ t = .int .i64 (K + (k : Int) * 8)) (fun _ i => n - (intOf i).toNat)
  case atStart => exact ⟨0, Nat.zero_le _, rfl, by simp⟩
  case round =>
    obtain ⟨k, hk, rfl, rfl⟩ := hrel
    by_cases hlt : k < n
    · obtain ⟨g, rfl, hg1, hg2, _, hc⟩ := gl k hlt
      have d0 : w.cell? ⟨g, k * 8, none⟩ = some (.int .i64 (K + (k : Int) * 8)) := hc (k * 8) _ (by omega) (vM_get (by omega) (by push_cast; omega))
      have d1 : w.cell? ⟨g, k * 8 + 1, none⟩ = some (.int .i64 (K + (k : Int) * 8 + 1)) := hc (k * 8 + 1) _ (by omega) (vM_get (by omega) (by push_cast; omega))
      have d2 : w.cell? ⟨g, k * 8 + 2, none⟩ = some (.int .i64 (K + (k : Int) * 8 + 1 + 1)) := hc (k * 8 + 2) _ (by omega) (vM_get (by omega) (by push_cast; omega))
      have d3 : w.cell? ⟨g, k * 8 + 3, none⟩ = some (.int .i64 (K + (k : Int) * 8 + 1 + 1 + 1)) := hc (k * 8 + 3) _ (by omega) (vM_get (by omega) (by push_cast; omega))
      have d4 : w.cell? ⟨g, k * 8 + 4, none⟩ = some (.int .i64 (K + (k : Int) * 8 + 1 + 1 + 1 + 1)) := hc (k * 8 + 4) _ (by omega) (vM_get (by omega) (by push_cast; omega))
      have d5 : w.cell? ⟨g, k * 8 + 5, none⟩ = some (.int .i64 (K + (k : Int) * 8 + 1 + 1 + 1 + 1 + 1)) := hc (k * 8 + 5) _ (by omega) (vM_get (by omega) (by push_cast; omega))
      have d6 : w.cell? ⟨g, k * 8 + 6, none⟩ = some (.int .i64 (K + (k : Int) * 8 + 1 + 1 + 1 + 1 + 1 + 1)) := hc (k * 8 + 6) _ (by omega) (vM_get (by omega) (by push_cast; omega))
      have d7 : w.cell? ⟨g, k * 8 + 7, none⟩ = some (.int .i64 (K + (k : Int) * 8 + 1 + 1 + 1 + 1 + 1 + 1 + 1)) := hc (k * 8 + 7) _ (by omega) (vM_get (by omega) (by push_cast; omega))
      clear hc gl hg1 hg2
      go_wp2
      exact ⟨⟨k + 1, by omega, by go_num, by first | go_num | (congr 1; push_cast; omega)⟩, by simp [intOf]; omega⟩
    · obtain rfl : k = n := by omega
      clear gl
      go_wp2
      go_ret
      exact ⟨rfl, rfl⟩

end Go.Proofs.Ytolcgopfbbmjgaa
