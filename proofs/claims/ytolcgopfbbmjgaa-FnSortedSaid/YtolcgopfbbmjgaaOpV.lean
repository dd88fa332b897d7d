/-
  Which operations are valid, of the program.
-/
import Derived.Test.YtolcgopfbbmjgaaOpS
import Derived.Test.YtolcgopfbbmjgaaSm0
namespace Go.Proofs.Ytolcgopfbbmjgaa
set_option linter.unusedVariables false
set_option linter.unusedSimpArgs false
open Go.RowKit

def ndB (b a : Int) : Bool := bedM b && inB 0 a 23
def nowE (P : Program) : Prop := True
theorem validNeedle_any (b a : Int) (w : World) : Calls Try.prog 74 #[.agg #[.int .i64 b, .int .i64 a]] w fun e w' => e = .returned (.bool (ndB b a)) ∧ Below w.heap.size w w' := by
  unfold ndB
  have H1 := Lib.hid (fun w' => isBed_s b w')
  generalize bedM b = B1 at *
  cases B1
  all_goals
    go_enter Try.func74, Try.ntmps74
    go_wp2_with fail
    refine (H1.out _).mono ?_
    rintro e w1 ⟨rfl, rfl⟩
  · go_wp2
    go_ret
    exact ⟨rfl, (Below.refl _ _).alloc (Nat.le_refl _) _⟩
  · go_wp2_with fail
    refine (within_s _ _ _ _).mono ?_
    rintro e w1 ⟨rfl, rfl⟩
    go_wp2
    go_ret
    exact ⟨rfl, (Below.refl _ _).alloc (Nat.le_refl _) _⟩
theorem isPair_any (fb fa tb ta : Int) (w : World) : Calls Try.prog 76 #[.agg #[.int .i64 fb, .int .i64 fa], .agg #[.int .i64 tb, .int .i64 ta]] w fun e w' => e = .returned (.bool (ndB fb fa && (ndB tb ta && decide (fb ≠ tb)))) ∧ Below w.heap.size w w' := by
  have H1 := Lib.hid (fun w' => validNeedle_any fb fa w')
  have H2 := Lib.hid (fun w' => validNeedle_any tb ta w')
  have e3 : (fb != tb) = decide (fb ≠ tb) := by rw [Bool.eq_iff_iff]; simp
  have HB0 := Lib.hid (show Below w.heap.size w ((w.alloc (.cells #[.int .i64 fb, .int .i64 fa] 53)).alloc (.cells #[.int .i64 tb, .int .i64 ta] 53)) from ((Below.refl _ _).alloc (Nat.le_refl _) _).alloc (by simp) _)
  have hca : CellsAt ((w.alloc (.cells #[.int .i64 fb, .int .i64 fa] 53)).alloc (.cells #[.int .i64 tb, .int .i64 ta] 53)) w.heap.size 0 [.int .i64 fb, .int .i64 fa] := by
    intro j u hu; rcases j with _ | _ | j <;> simp at hu <;> subst hu <;> simp [go_sem]
  have hcb : CellsAt ((w.alloc (.cells #[.int .i64 fb, .int .i64 fa] 53)).alloc (.cells #[.int .i64 tb, .int .i64 ta] 53)) (w.heap.size + 1) 0 [.int .i64 tb, .int .i64 ta] := by
    intro j u hu; rcases j with _ | _ | j <;> simp at hu <;> subst hu <;> simp [go_sem]
  have HCA := Lib.hid hca
  have HCB := Lib.hid hcb
  clear hca hcb
  generalize ndB fb fa = B1 at *
  generalize ndB tb ta = B2 at *
  generalize decide (fb ≠ tb) = B3 at *
  cases B1
  · go_enter Try.func76, Try.ntmps76
    go_wp2_with fail
    refine (H1.out _).mono ?_
    rintro e w1 ⟨rfl, hb⟩
    have HB := Lib.hid (HB0.out.trans (hb.mono HB0.out.size))
    clear hb
    go_wp2
    go_ret
    exact ⟨rfl, HB.out⟩
  cases B2
  all_goals
    go_enter Try.func76, Try.ntmps76
    go_wp2_with fail
    refine (H1.out _).mono ?_
    rintro e w1 ⟨rfl, hb⟩
    have HB1 := Lib.hid (HB0.out.trans (hb.mono HB0.out.size))
    obtain ⟨y0, y1⟩ := (HCA.out.below hb (by simp; try omega)).two
    obtain ⟨x0, x1⟩ := (HCB.out.below hb (by simp; try omega)).two
    have HCA1 := Lib.hid (HCA.out.below hb (by simp; try omega))
    have HCB1 := Lib.hid (HCB.out.below hb (by simp; try omega))
    have HZ1 := Lib.hid (show w.heap.size + 2 ≤ w1.heap.size by have := hb.size; simp at this; omega)
    clear hb
    go_wp2_with fail
    refine (H2.out _).mono ?_
    rintro e w2 ⟨rfl, hb⟩
    have HB2 := Lib.hid (HB1.out.trans (hb.mono HB1.out.size))
    clear y0 y1 x0 x1
    obtain ⟨y0, y1⟩ := (HCA1.out.below hb (by have := HZ1.out; omega)).two
    obtain ⟨x0, x1⟩ := (HCB1.out.below hb (by have := HZ1.out; omega)).two
    clear hb
  · go_wp2
    go_ret
    exact ⟨rfl, HB2.out⟩
  · cases B3
    all_goals
      go_wp2
      go_ret
      exact ⟨ret_bool (by simp), HB2.out⟩

set_option maxHeartbeats 4000000 in
set_option maxRecDepth 100000 in
theorem validOp_1 (k : Int) (hk : k = 1 ∨ k = 2 ∨ k = 3) (d fb fa tb ta c r : Int) (w : World) : Calls Try.prog 61 #[(⟨k, d, fb, fa, tb, ta, c, r⟩ : Opr).v] w fun e w' => e = .returned (.bool (dirM d && (ndB fb fa && (inB 1 c 4 && ((decide (tb = 0) && decide (ta = 0)) && (decide (r = 0))))))) ∧ Below w.heap.size w w' := by
  have HB0 := Lib.hid (show Below w.heap.size w (w.alloc (.cells #[.int .i64 k, .int .i64 d, .int .i64 fb, .int .i64 fa, .int .i64 tb, .int .i64 ta, .int .i64 c, .int .i64 r] 55)) from (Below.refl _ _).alloc (Nat.le_refl _) _)
  have hca : CellsAt (w.alloc (.cells #[.int .i64 k, .int .i64 d, .int .i64 fb, .int .i64 fa, .int .i64 tb, .int .i64 ta, .int .i64 c, .int .i64 r] 55)) w.heap.size 0 [.int .i64 k, .int .i64 d, .int .i64 fb, .int .i64 fa, .int .i64 tb, .int .i64 ta, .int .i64 c, .int .i64 r] := CellsAt.of_alloc
  have HCA := Lib.hid hca
  clear hca
  have H0 := Lib.hid (fun w' => isDirection_s d w')
  have H1 := Lib.hid (fun w' => validNeedle_any fb fa w')
  have H2 := Lib.hid (fun w' => isCarrier_s c w')
  have e3 := fun W => eql_nd tb ta 0 0 W
  have e4 : (r == 0) = decide (r = 0) := rfl
  generalize dirM d = B0 at *
  generalize ndB fb fa = B1 at *
  generalize inB 1 c 4 = B2 at *
  generalize (decide (tb = 0) && decide (ta = 0)) = B3 at *
  generalize decide (r = 0) = B4 at *
  rcases hk with rfl | rfl | rfl
  all_goals
    cases B0
    · skip
      go_enter Try.func61, Try.ntmps61
      go_wp2_with fail
      refine (H0.out _).mono ?_
      rintro e w1 ⟨rfl, rfl⟩
      go_wp2
      go_ret
      exact ⟨ret_bool (by simp), HB0.out⟩
    cases B1
    · skip
      go_enter Try.func61, Try.ntmps61
      go_wp2_with fail
      refine (H0.out _).mono ?_
      rintro e w1 ⟨rfl, rfl⟩
      go_wp2_with fail
      refine (H1.out _).mono ?_
      rintro e w2 ⟨rfl, hb⟩
      have HBB1 := Lib.hid (HB0.out.trans (hb.mono HB0.out.size))
      have HCA1 := Lib.hid (HCA.out.below hb (by have := HB0.out.size; simp; try omega))
      obtain ⟨y0, y1, y2, y3, y4, y5, y6, y7⟩ := HCA1.out.eight
      clear hb
      go_wp2
      go_ret
      exact ⟨ret_bool (by simp), HBB1.out⟩
    cases B2
    · skip
      go_enter Try.func61, Try.ntmps61
      go_wp2_with fail
      refine (H0.out _).mono ?_
      rintro e w1 ⟨rfl, rfl⟩
      go_wp2_with fail
      refine (H1.out _).mono ?_
      rintro e w2 ⟨rfl, hb⟩
      have HBB1 := Lib.hid (HB0.out.trans (hb.mono HB0.out.size))
      have HCA1 := Lib.hid (HCA.out.below hb (by have := HB0.out.size; simp; try omega))
      obtain ⟨y0, y1, y2, y3, y4, y5, y6, y7⟩ := HCA1.out.eight
      clear hb
      go_wp2_with fail
      refine (H2.out _).mono ?_
      rintro e w3 ⟨rfl, rfl⟩
      go_wp2
      go_ret
      exact ⟨ret_bool (by simp), HBB1.out⟩
    cases B3
    · skip
      go_enter Try.func61, Try.ntmps61
      go_wp2_with fail
      refine (H0.out _).mono ?_
      rintro e w1 ⟨rfl, rfl⟩
      go_wp2_with fail
      refine (H1.out _).mono ?_
      rintro e w2 ⟨rfl, hb⟩
      have HBB1 := Lib.hid (HB0.out.trans (hb.mono HB0.out.size))
      have HCA1 := Lib.hid (HCA.out.below hb (by have := HB0.out.size; simp; try omega))
      obtain ⟨y0, y1, y2, y3, y4, y5, y6, y7⟩ := HCA1.out.eight
      clear hb
      go_wp2_with fail
      refine (H2.out _).mono ?_
      rintro e w3 ⟨rfl, rfl⟩
      go_wp2
      go_ret
      exact ⟨ret_bool (by simp), HBB1.out⟩
    cases B4
    all_goals
      go_enter Try.func61, Try.ntmps61
      go_wp2_with fail
      refine (H0.out _).mono ?_
      rintro e w1 ⟨rfl, rfl⟩
      go_wp2_with fail
      refine (H1.out _).mono ?_
      rintro e w2 ⟨rfl, hb⟩
      have HBB1 := Lib.hid (HB0.out.trans (hb.mono HB0.out.size))
      have HCA1 := Lib.hid (HCA.out.below hb (by have := HB0.out.size; simp; try omega))
      obtain ⟨y0, y1, y2, y3, y4, y5, y6, y7⟩ := HCA1.out.eight
      clear hb
      go_wp2_with fail
      refine (H2.out _).mono ?_
      rintro e w3 ⟨rfl, rfl⟩
      go_wp2
      go_ret
      exact ⟨ret_bool (by simp), HBB1.out⟩

set_option maxHeartbeats 4000000 in
set_option maxRecDepth 100000 in
theorem validOp_4 (d fb fa tb ta c r : Int) (w : World) : Calls Try.prog 61 #[(⟨4, d, fb, fa, tb, ta, c, r⟩ : Opr).v] w fun e w' => e = .returned (.bool ((ndB fb fa && (ndB tb ta && decide (fb ≠ tb))) && (decide (d = 0) && (decide (c = 0) && (decide (r = 0)))))) ∧ Below w.heap.size w w' := by
  have HB0 := Lib.hid (show Below w.heap.size w (w.alloc (.cells #[.int .i64 4, .int .i64 d, .int .i64 fb, .int .i64 fa, .int .i64 tb, .int .i64 ta, .int .i64 c, .int .i64 r] 55)) from (Below.refl _ _).alloc (Nat.le_refl _) _)
  have hca : CellsAt (w.alloc (.cells #[.int .i64 4, .int .i64 d, .int .i64 fb, .int .i64 fa, .int .i64 tb, .int .i64 ta, .int .i64 c, .int .i64 r] 55)) w.heap.size 0 [.int .i64 4, .int .i64 d, .int .i64 fb, .int .i64 fa, .int .i64 tb, .int .i64 ta, .int .i64 c, .int .i64 r] := CellsAt.of_alloc
  have HCA := Lib.hid hca
  clear hca
  have H0 := Lib.hid (fun w' => isPair_any fb fa tb ta w')
  have e1 : (d == 0) = decide (d = 0) := rfl
  have e2 : (c == 0) = decide (c = 0) := rfl
  have e3 : (r == 0) = decide (r = 0) := rfl
  generalize (ndB fb fa && (ndB tb ta && decide (fb ≠ tb))) = B0 at *
  generalize decide (d = 0) = B1 at *
  generalize decide (c = 0) = B2 at *
  generalize decide (r = 0) = B3 at *
  cases B0
  · skip
    go_enter Try.func61, Try.ntmps61
    go_wp2_with fail
    refine (H0.out _).mono ?_
    rintro e w1 ⟨rfl, hb⟩
    have HBB0 := Lib.hid (HB0.out.trans (hb.mono HB0.out.size))
    have HCA0 := Lib.hid (HCA.out.below hb (by have := HB0.out.size; simp; try omega))
    obtain ⟨y0, y1, y2, y3, y4, y5, y6, y7⟩ := HCA0.out.eight
    clear hb
    go_wp2
    go_ret
    exact ⟨ret_bool (by simp), HBB0.out⟩
  cases B1
  · skip
    go_enter Try.func61, Try.ntmps61
    go_wp2_with fail
    refine (H0.out _).mono ?_
    rintro e w1 ⟨rfl, hb⟩
    have HBB0 := Lib.hid (HB0.out.trans (hb.mono HB0.out.size))
    have HCA0 := Lib.hid (HCA.out.below hb (by have := HB0.out.size; simp; try omega))
    obtain ⟨y0, y1, y2, y3, y4, y5, y6, y7⟩ := HCA0.out.eight
    clear hb
    go_wp2
    go_ret
    exact ⟨ret_bool (by simp), HBB0.out⟩
  cases B2
  · skip
    go_enter Try.func61, Try.ntmps61
    go_wp2_with fail
    refine (H0.out _).mono ?_
    rintro e w1 ⟨rfl, hb⟩
    have HBB0 := Lib.hid (HB0.out.trans (hb.mono HB0.out.size))
    have HCA0 := Lib.hid (HCA.out.below hb (by have := HB0.out.size; simp; try omega))
    obtain ⟨y0, y1, y2, y3, y4, y5, y6, y7⟩ := HCA0.out.eight
    clear hb
    go_wp2
    go_ret
    exact ⟨ret_bool (by simp), HBB0.out⟩
  cases B3
  all_goals
    go_enter Try.func61, Try.ntmps61
    go_wp2_with fail
    refine (H0.out _).mono ?_
    rintro e w1 ⟨rfl, hb⟩
    have HBB0 := Lib.hid (HB0.out.trans (hb.mono HB0.out.size))
    have HCA0 := Lib.hid (HCA.out.below hb (by have := HB0.out.size; simp; try omega))
    obtain ⟨y0, y1, y2, y3, y4, y5, y6, y7⟩ := HCA0.out.eight
    clear hb
    go_wp2
    go_ret
    exact ⟨ret_bool (by simp), HBB0.out⟩

set_option maxHeartbeats 4000000 in
set_option maxRecDepth 100000 in
theorem validOp_5 (d fb fa tb ta c r : Int) (w : World) : Calls Try.prog 61 #[(⟨5, d, fb, fa, tb, ta, c, r⟩ : Opr).v] w fun e w' => e = .returned (.bool ((ndB fb fa && (ndB tb ta && decide (fb ≠ tb))) && (dirM d && (inB 1 c 4 && (decide (r = 0)))))) ∧ Below w.heap.size w w' := by
  have HB0 := Lib.hid (show Below w.heap.size w (w.alloc (.cells #[.int .i64 5, .int .i64 d, .int .i64 fb, .int .i64 fa, .int .i64 tb, .int .i64 ta, .int .i64 c, .int .i64 r] 55)) from (Below.refl _ _).alloc (Nat.le_refl _) _)
  have hca : CellsAt (w.alloc (.cells #[.int .i64 5, .int .i64 d, .int .i64 fb, .int .i64 fa, .int .i64 tb, .int .i64 ta, .int .i64 c, .int .i64 r] 55)) w.heap.size 0 [.int .i64 5, .int .i64 d, .int .i64 fb, .int .i64 fa, .int .i64 tb, .int .i64 ta, .int .i64 c, .int .i64 r] := CellsAt.of_alloc
  have HCA := Lib.hid hca
  clear hca
  have H0 := Lib.hid (fun w' => isPair_any fb fa tb ta w')
  have H1 := Lib.hid (fun w' => isDirection_s d w')
  have H2 := Lib.hid (fun w' => isCarrier_s c w')
  have e3 : (r == 0) = decide (r = 0) := rfl
  generalize (ndB fb fa && (ndB tb ta && decide (fb ≠ tb))) = B0 at *
  generalize dirM d = B1 at *
  generalize inB 1 c 4 = B2 at *
  generalize decide (r = 0) = B3 at *
  cases B0
  · skip
    go_enter Try.func61, Try.ntmps61
    go_wp2_with fail
    refine (H0.out _).mono ?_
    rintro e w1 ⟨rfl, hb⟩
    have HBB0 := Lib.hid (HB0.out.trans (hb.mono HB0.out.size))
    have HCA0 := Lib.hid (HCA.out.below hb (by have := HB0.out.size; simp; try omega))
    obtain ⟨y0, y1, y2, y3, y4, y5, y6, y7⟩ := HCA0.out.eight
    clear hb
    go_wp2
    go_ret
    exact ⟨ret_bool (by simp), HBB0.out⟩
  cases B1
  · skip
    go_enter Try.func61, Try.ntmps61
    go_wp2_with fail
    refine (H0.out _).mono ?_
    rintro e w1 ⟨rfl, hb⟩
    have HBB0 := Lib.hid (HB0.out.trans (hb.mono HB0.out.size))
    have HCA0 := Lib.hid (HCA.out.below hb (by have := HB0.out.size; simp; try omega))
    obtain ⟨y0, y1, y2, y3, y4, y5, y6, y7⟩ := HCA0.out.eight
    clear hb
    go_wp2_with fail
    refine (H1.out _).mono ?_
    rintro e w2 ⟨rfl, rfl⟩
    go_wp2
    go_ret
    exact ⟨ret_bool (by simp), HBB0.out⟩
  cases B2
  · skip
    go_enter Try.func61, Try.ntmps61
    go_wp2_with fail
    refine (H0.out _).mono ?_
    rintro e w1 ⟨rfl, hb⟩
    have HBB0 := Lib.hid (HB0.out.trans (hb.mono HB0.out.size))
    have HCA0 := Lib.hid (HCA.out.below hb (by have := HB0.out.size; simp; try omega))
    obtain ⟨y0, y1, y2, y3, y4, y5, y6, y7⟩ := HCA0.out.eight
    clear hb
    go_wp2_with fail
    refine (H1.out _).mono ?_
    rintro e w2 ⟨rfl, rfl⟩
    go_wp2_with fail
    refine (H2.out _).mono ?_
    rintro e w3 ⟨rfl, rfl⟩
    go_wp2
    go_ret
    exact ⟨ret_bool (by simp), HBB0.out⟩
  cases B3
  all_goals
    go_enter Try.func61, Try.ntmps61
    go_wp2_with fail
    refine (H0.out _).mono ?_
    rintro e w1 ⟨rfl, hb⟩
    have HBB0 := Lib.hid (HB0.out.trans (hb.mono HB0.out.size))
    have HCA0 := Lib.hid (HCA.out.below hb (by have := HB0.out.size; simp; try omega))
    obtain ⟨y0, y1, y2, y3, y4, y5, y6, y7⟩ := HCA0.out.eight
    clear hb
    go_wp2_with fail
    refine (H1.out _).mono ?_
    rintro e w2 ⟨rfl, rfl⟩
    go_wp2_with fail
    refine (H2.out _).mono ?_
    rintro e w3 ⟨rfl, rfl⟩
    go_wp2
    go_ret
    exact ⟨ret_bool (by simp), HBB0.out⟩

set_option maxHeartbeats 4000000 in
set_option maxRecDepth 100000 in
theorem validOp_6 (d fb fa tb ta c r : Int) (w : World) : Calls Try.prog 61 #[(⟨6, d, fb, fa, tb, ta, c, r⟩ : Opr).v] w fun e w' => e = .returned (.bool (ndB fb fa && (decide ((⟨6, d, fb, fa, tb, ta, c, r⟩ : Opr) = ⟨6, 0, fb, fa, 0, 0, 0, 0⟩)))) ∧ Below w.heap.size w w' := by
  have HB0 := Lib.hid (show Below w.heap.size w (w.alloc (.cells #[.int .i64 6, .int .i64 d, .int .i64 fb, .int .i64 fa, .int .i64 tb, .int .i64 ta, .int .i64 c, .int .i64 r] 55)) from (Below.refl _ _).alloc (Nat.le_refl _) _)
  have hca : CellsAt (w.alloc (.cells #[.int .i64 6, .int .i64 d, .int .i64 fb, .int .i64 fa, .int .i64 tb, .int .i64 ta, .int .i64 c, .int .i64 r] 55)) w.heap.size 0 [.int .i64 6, .int .i64 d, .int .i64 fb, .int .i64 fa, .int .i64 tb, .int .i64 ta, .int .i64 c, .int .i64 r] := CellsAt.of_alloc
  have HCA := Lib.hid hca
  clear hca
  have H0 := Lib.hid (fun w' => validNeedle_any fb fa w')
  have e1 := fun W => eql_op ⟨6, d, fb, fa, tb, ta, c, r⟩ ⟨6, 0, fb, fa, 0, 0, 0, 0⟩ W
  generalize ndB fb fa = B0 at *
  generalize decide ((⟨6, d, fb, fa, tb, ta, c, r⟩ : Opr) = ⟨6, 0, fb, fa, 0, 0, 0, 0⟩) = B1 at *
  cases B0
  · skip
    go_enter Try.func61, Try.ntmps61
    go_wp2_with fail
    refine (H0.out _).mono ?_
    rintro e w1 ⟨rfl, hb⟩
    have HBB0 := Lib.hid (HB0.out.trans (hb.mono HB0.out.size))
    have HCA0 := Lib.hid (HCA.out.below hb (by have := HB0.out.size; simp; try omega))
    obtain ⟨y0, y1, y2, y3, y4, y5, y6, y7⟩ := HCA0.out.eight
    clear hb
    go_wp2
    go_ret
    exact ⟨ret_bool (by simp), HBB0.out⟩
  cases B1
  all_goals
    go_enter Try.func61, Try.ntmps61
    go_wp2_with fail
    refine (H0.out _).mono ?_
    rintro e w1 ⟨rfl, hb⟩
    have HBB0 := Lib.hid (HB0.out.trans (hb.mono HB0.out.size))
    have HCA0 := Lib.hid (HCA.out.below hb (by have := HB0.out.size; simp; try omega))
    obtain ⟨y0, y1, y2, y3, y4, y5, y6, y7⟩ := HCA0.out.eight
    clear hb
    go_wp2
    go_ret
    exact ⟨ret_bool (by simp), HBB0.out⟩

set_option maxHeartbeats 4000000 in
set_option maxRecDepth 100000 in
theorem validOp_7 (d fb fa tb ta c r : Int) (w : World) : Calls Try.prog 61 #[(⟨7, d, fb, fa, tb, ta, c, r⟩ : Opr).v] w fun e w' => e = .returned (.bool (inB (-3) r 3 && (decide ((⟨7, d, fb, fa, tb, ta, c, r⟩ : Opr) = ⟨7, 0, 0, 0, 0, 0, 0, r⟩)))) ∧ Below w.heap.size w w' := by
  have HB0 := Lib.hid (show Below w.heap.size w (w.alloc (.cells #[.int .i64 7, .int .i64 d, .int .i64 fb, .int .i64 fa, .int .i64 tb, .int .i64 ta, .int .i64 c, .int .i64 r] 55)) from (Below.refl _ _).alloc (Nat.le_refl _) _)
  have hca : CellsAt (w.alloc (.cells #[.int .i64 7, .int .i64 d, .int .i64 fb, .int .i64 fa, .int .i64 tb, .int .i64 ta, .int .i64 c, .int .i64 r] 55)) w.heap.size 0 [.int .i64 7, .int .i64 d, .int .i64 fb, .int .i64 fa, .int .i64 tb, .int .i64 ta, .int .i64 c, .int .i64 r] := CellsAt.of_alloc
  have HCA := Lib.hid hca
  clear hca
  have H0 := Lib.hid (fun w' => isRack_s r w')
  have e1 := fun W => eql_op ⟨7, d, fb, fa, tb, ta, c, r⟩ ⟨7, 0, 0, 0, 0, 0, 0, r⟩ W
  generalize inB (-3) r 3 = B0 at *
  generalize decide ((⟨7, d, fb, fa, tb, ta, c, r⟩ : Opr) = ⟨7, 0, 0, 0, 0, 0, 0, r⟩) = B1 at *
  cases B0
  · skip
    go_enter Try.func61, Try.ntmps61
    go_wp2_with fail
    refine (H0.out _).mono ?_
    rintro e w1 ⟨rfl, rfl⟩
    go_wp2
    go_ret
    exact ⟨ret_bool (by simp), HB0.out⟩
  cases B1
  all_goals
    go_enter Try.func61, Try.ntmps61
    go_wp2_with fail
    refine (H0.out _).mono ?_
    rintro e w1 ⟨rfl, rfl⟩
    go_wp2
    go_ret
    exact ⟨ret_bool (by simp), HB0.out⟩

set_option maxHeartbeats 4000000 in
set_option maxRecDepth 100000 in
theorem validOp_8 (d fb fa tb ta c r : Int) (w : World) : Calls Try.prog 61 #[(⟨8, d, fb, fa, tb, ta, c, r⟩ : Opr).v] w fun e w' => e = .returned (.bool (dirM d && (inB 1 c 4 && (decide ((⟨8, d, fb, fa, tb, ta, c, r⟩ : Opr) = ⟨8, d, 0, 0, 0, 0, c, 0⟩))))) ∧ Below w.heap.size w w' := by
  have HB0 := Lib.hid (show Below w.heap.size w (w.alloc (.cells #[.int .i64 8, .int .i64 d, .int .i64 fb, .int .i64 fa, .int .i64 tb, .int .i64 ta, .int .i64 c, .int .i64 r] 55)) from (Below.refl _ _).alloc (Nat.le_refl _) _)
  have hca : CellsAt (w.alloc (.cells #[.int .i64 8, .int .i64 d, .int .i64 fb, .int .i64 fa, .int .i64 tb, .int .i64 ta, .int .i64 c, .int .i64 r] 55)) w.heap.size 0 [.int .i64 8, .int .i64 d, .int .i64 fb, .int .i64 fa, .int .i64 tb, .int .i64 ta, .int .i64 c, .int .i64 r] := CellsAt.of_alloc
  have HCA := Lib.hid hca
  clear hca
  have H0 := Lib.hid (fun w' => isDirection_s d w')
  have H1 := Lib.hid (fun w' => isCarrier_s c w')
  have e2 := fun W => eql_op ⟨8, d, fb, fa, tb, ta, c, r⟩ ⟨8, d, 0, 0, 0, 0, c, 0⟩ W
  generalize dirM d = B0 at *
  generalize inB 1 c 4 = B1 at *
  generalize decide ((⟨8, d, fb, fa, tb, ta, c, r⟩ : Opr) = ⟨8, d, 0, 0, 0, 0, c, 0⟩) = B2 at *
  cases B0
  · skip
    go_enter Try.func61, Try.ntmps61
    go_wp2_with fail
    refine (H0.out _).mono ?_
    rintro e w1 ⟨rfl, rfl⟩
    go_wp2
    go_ret
    exact ⟨ret_bool (by simp), HB0.out⟩
  cases B1
  · skip
    go_enter Try.func61, Try.ntmps61
    go_wp2_with fail
    refine (H0.out _).mono ?_
    rintro e w1 ⟨rfl, rfl⟩
    go_wp2_with fail
    refine (H1.out _).mono ?_
    rintro e w2 ⟨rfl, rfl⟩
    go_wp2
    go_ret
    exact ⟨ret_bool (by simp), HB0.out⟩
  cases B2
  all_goals
    go_enter Try.func61, Try.ntmps61
    go_wp2_with fail
    refine (H0.out _).mono ?_
    rintro e w1 ⟨rfl, rfl⟩
    go_wp2_with fail
    refine (H1.out _).mono ?_
    rintro e w2 ⟨rfl, rfl⟩
    go_wp2
    go_ret
    exact ⟨ret_bool (by simp), HB0.out⟩

set_option maxHeartbeats 4000000 in
set_option maxRecDepth 100000 in
theorem validOp_9 (d fb fa tb ta c r : Int) (w : World) : Calls Try.prog 61 #[(⟨9, d, fb, fa, tb, ta, c, r⟩ : Opr).v] w fun e w' => e = .returned (.bool (inB 1 c 4 && (decide ((⟨9, d, fb, fa, tb, ta, c, r⟩ : Opr) = ⟨9, 0, 0, 0, 0, 0, c, 0⟩)))) ∧ Below w.heap.size w w' := by
  have HB0 := Lib.hid (show Below w.heap.size w (w.alloc (.cells #[.int .i64 9, .int .i64 d, .int .i64 fb, .int .i64 fa, .int .i64 tb, .int .i64 ta, .int .i64 c, .int .i64 r] 55)) from (Below.refl _ _).alloc (Nat.le_refl _) _)
  have hca : CellsAt (w.alloc (.cells #[.int .i64 9, .int .i64 d, .int .i64 fb, .int .i64 fa, .int .i64 tb, .int .i64 ta, .int .i64 c, .int .i64 r] 55)) w.heap.size 0 [.int .i64 9, .int .i64 d, .int .i64 fb, .int .i64 fa, .int .i64 tb, .int .i64 ta, .int .i64 c, .int .i64 r] := CellsAt.of_alloc
  have HCA := Lib.hid hca
  clear hca
  have H0 := Lib.hid (fun w' => isCarrier_s c w')
  have e1 := fun W => eql_op ⟨9, d, fb, fa, tb, ta, c, r⟩ ⟨9, 0, 0, 0, 0, 0, c, 0⟩ W
  generalize inB 1 c 4 = B0 at *
  generalize decide ((⟨9, d, fb, fa, tb, ta, c, r⟩ : Opr) = ⟨9, 0, 0, 0, 0, 0, c, 0⟩) = B1 at *
  cases B0
  · skip
    go_enter Try.func61, Try.ntmps61
    go_wp2_with fail
    refine (H0.out _).mono ?_
    rintro e w1 ⟨rfl, rfl⟩
    go_wp2
    go_ret
    exact ⟨ret_bool (by simp), HB0.out⟩
  cases B1
  all_goals
    go_enter Try.func61, Try.ntmps61
    go_wp2_with fail
    refine (H0.out _).mono ?_
    rintro e w1 ⟨rfl, rfl⟩
    go_wp2
    go_ret
    exact ⟨ret_bool (by simp), HB0.out⟩

set_option maxHeartbeats 2000000 in
theorem validOp_0 (k d fb fa tb ta c r : Int) (w : World) (h1 : (k == 1) = false) (h2 : (k == 2) = false) (h3 : (k == 3) = false) (h4 : (k == 4) = false) (h5 : (k == 5) = false) (h6 : (k == 6) = false) (h7 : (k == 7) = false) (h8 : (k == 8) = false) (h9 : (k == 9) = false) :
    Calls Try.prog 61 #[(⟨k, d, fb, fa, tb, ta, c, r⟩ : Opr).v] w fun e w' => e = .returned (.bool false) ∧ Below w.heap.size w w' := by
  go_enter Try.func61, Try.ntmps61
  go_wp2
  go_ret
  exact ⟨rfl, (Below.refl _ _).alloc (Nat.le_refl _) _⟩

/-- Is an operation valid? -/
def okOp (o : Opr) : Bool :=
  if o.k = 1 ∨ o.k = 2 ∨ o.k = 3 then dirM o.d && (ndB o.fb o.fa && (inB 1 o.c 4 && ((decide (o.tb = 0) && decide (o.ta = 0)) && decide (o.r = 0))))
  else if o.k = 4 then (ndB o.fb o.fa && (ndB o.tb o.ta && decide (o.fb ≠ o.tb))) && (decide (o.d = 0) && (decide (o.c = 0) && decide (o.r = 0)))
  else if o.k = 5 then (ndB o.fb o.fa && (ndB o.tb o.ta && decide (o.fb ≠ o.tb))) && (dirM o.d && (inB 1 o.c 4 && decide (o.r = 0)))
  else if o.k = 6 then ndB o.fb o.fa && decide (o = ⟨6, 0, o.fb, o.fa, 0, 0, 0, 0⟩)
  else if o.k = 7 then inB (-3) o.r 3 && decide (o = ⟨7, 0, 0, 0, 0, 0, 0, o.r⟩)
  else if o.k = 8 then dirM o.d && (inB 1 o.c 4 && decide (o = ⟨8, o.d, 0, 0, 0, 0, o.c, 0⟩))
  else if o.k = 9 then inB 1 o.c 4 && decide (o = ⟨9, 0, 0, 0, 0, 0, o.c, 0⟩)
  else false
theorem validOp_any (o : Opr) (w : World) : Calls Try.prog 61 #[o.v] w fun e w' => e = .returned (.bool (okOp o)) ∧ Below w.heap.size w w' := by
  obtain ⟨k, d, fb, fa, tb, ta, c, r⟩ := o
  by_cases h1 : k = 1 ∨ k = 2 ∨ k = 3
  · have := validOp_1 k h1 d fb fa tb ta c r w
    rwa [show okOp ⟨k, d, fb, fa, tb, ta, c, r⟩ = _ from if_pos h1]
  have hn : k ≠ 1 ∧ k ≠ 2 ∧ k ≠ 3 := by omega
  by_cases h4 : k = 4
  · subst h4; exact validOp_4 d fb fa tb ta c r w
  by_cases h5 : k = 5
  · subst h5; exact validOp_5 d fb fa tb ta c r w
  by_cases h6 : k = 6
  · subst h6; exact validOp_6 d fb fa tb ta c r w
  by_cases h7 : k = 7
  · subst h7; exact validOp_7 d fb fa tb ta c r w
  by_cases h8 : k = 8
  · subst h8; exact validOp_8 d fb fa tb ta c r w
  by_cases h9 : k = 9
  · subst h9; exact validOp_9 d fb fa tb ta c r w
  have e : okOp ⟨k, d, fb, fa, tb, ta, c, r⟩ = false := by unfold okOp; simp [hn.1, hn.2.1, hn.2.2, h4, h5, h6, h7, h8, h9]
  rw [e]
  exact validOp_0 k d fb fa tb ta c r w (by simpa using hn.1) (by simpa using hn.2.1) (by simpa using hn.2.2) (by simpa using h4) (by simpa using h5) (by simpa using h6) (by simpa using h7) (by simpa using h8) (by simpa using h9)

end Go.Proofs.Ytolcgopfbbmjgaa
