/-
  Texts joined: Op, OpS, OpV.
-/
import Derived.Test.YthhpjgdeehcgjaaGreatRows
import Derived.Test.YthhpjgdeehcgjaaGreatMem
import Derived.Test.YthhpjgdeehcgjaaGreatWords
import Derived.Test.YthhpjgdeehcgjaaGreatMark
import Derived.Deep.OwnRows
import Derived.Test.YthhpjgdeehcgjaaGreatNst
import Derived.Test.YthhpjgdeehcgjaaGreatSm0
/-
  Operations and needles as plain data, and what the laws' helpers for operations do.
-/
namespace Go.Proofs.YthhpjgdeehcgjaaGreat
set_option linter.unusedVariables false
set_option linter.unusedSimpArgs false
open Go.RowKit

structure Opr where
  k : Int
  d : Int
  fb : Int
  fa : Int
  tb : Int
  ta : Int
  c : Int
  r : Int
deriving DecidableEq
abbrev Opr.v (e : Opr) : Value := .agg #[.int .i64 e.k, .int .i64 e.d, .int .i64 e.fb, .int .i64 e.fa, .int .i64 e.tb, .int .i64 e.ta, .int .i64 e.c, .int .i64 e.r]
abbrev Opr.cells (e : Opr) : List Value := [.int .i64 e.k, .int .i64 e.d, .int .i64 e.fb, .int .i64 e.fa, .int .i64 e.tb, .int .i64 e.ta, .int .i64 e.c, .int .i64 e.r]
abbrev RdO := RdS Opr.cells 8
theorem Opr.len (e : Opr) : e.cells.length = 8 := rfl
theorem info_op : (Tryz.prog.info? 41).map (fun i => (i.zero, i.size, i.bytes)) = some (some (.agg #[.int .i64 0, .int .i64 0, .int .i64 0, .int .i64 0, .int .i64 0, .int .i64 0, .int .i64 0, .int .i64 0]), 8, 64) := by kernel_rfl
theorem eqlIn_nd (d : Nat) (a b p q : Int) (W : World) : (Op.equalIn (d + 2) 39 (.agg #[.int .i64 a, .int .i64 b]) (.agg #[.int .i64 p, .int .i64 q])).run Tryz.prog W = .ok (decide (a = p) && decide (b = q)) W := by
  rw [run_equalIn_struct (P := Tryz.prog) W (d + 1) 39 _ _ (by kernel_rfl) (by kernel_rfl)]
  have hf : (Tryz.prog.fieldsOf 39).toList = [⟨"Bed", 2, 0, false, "", "", 0⟩, ⟨"At", 2, 1, false, "", "", 8⟩] := by kernel_rfl
  rw [hf]
  generalize hk : decide (a = p) = bk
  generalize hp : decide (b = q) = bp
  have hk' : (a == p) = bk := by rw [← hk]; rfl
  have hp' : (b == q) = bp := by rw [← hp]; rfl
  simp [go_sem, Op.eqFields, hk', hp', -beq_iff_eq]
  cases bk <;> cases bp <;> rfl
theorem neq_nd (a b p q : Int) (W : World) : (binOp .neq 39 (.agg #[.int .i64 a, .int .i64 b]) (.agg #[.int .i64 p, .int .i64 q])).run Tryz.prog W = .ok (.bool (!(decide (a = p) && decide (b = q)))) W := by
  rw [run_neq_struct, eqlIn_nd 9998]
  rfl
theorem eql_nd (a b p q : Int) (W : World) : (binOp .eql 39 (.agg #[.int .i64 a, .int .i64 b]) (.agg #[.int .i64 p, .int .i64 q])).run Tryz.prog W = .ok (.bool (decide (a = p) && decide (b = q))) W := by
  rw [run_eql_struct, eqlIn_nd 9998]
  rfl

theorem eqlIn_op (d : Nat) (x y : Opr) (W : World) : (Op.equalIn (d + 3) 41 x.v y.v).run Tryz.prog W = .ok (decide (x = y)) W := by
  rw [run_equalIn_struct (P := Tryz.prog) W (d + 2) 41 _ _ (by kernel_rfl) (by kernel_rfl)]
  have hf : (Tryz.prog.fieldsOf 41).toList = [⟨"Kind", 2, 0, false, "", "", 0⟩, ⟨"Dir", 2, 1, false, "", "", 8⟩, ⟨"From", 39, 2, false, "", "", 16⟩, ⟨"To", 39, 4, false, "", "", 32⟩, ⟨"Carrier", 2, 6, false, "", "", 48⟩, ⟨"Rack", 2, 7, false, "", "", 56⟩] := by kernel_rfl
  rw [hf]
  have e : decide (x = y) = (x.k == y.k && (x.d == y.d && ((decide (x.fb = y.fb) && decide (x.fa = y.fa)) && ((decide (x.tb = y.tb) && decide (x.ta = y.ta)) && (x.c == y.c && x.r == y.r))))) := by
    cases x; cases y
    rw [Bool.eq_iff_iff]
    simp
    intro _ _
    exact ⟨fun ⟨a, b, c, d, e, f⟩ => ⟨⟨a, b⟩, ⟨c, d⟩, e, f⟩, fun ⟨⟨a, b⟩, ⟨c, d⟩, e, f⟩ => ⟨a, b, c, d, e, f⟩⟩
  rw [e]
  have h1 := fun W => eqlIn_nd d x.fb x.fa y.fb y.fa W
  have h2 := fun W => eqlIn_nd d x.tb x.ta y.tb y.ta W
  generalize (decide (x.fb = y.fb) && decide (x.fa = y.fa)) = bb at *
  generalize (decide (x.tb = y.tb) && decide (x.ta = y.ta)) = bd at *
  generalize hk : (x.k == y.k) = bk
  generalize hp : (x.d == y.d) = bp
  generalize hc : (x.c == y.c) = bc
  generalize hd : (x.r == y.r) = be
  simp [go_sem, Op.eqFields, hk, hp, hc, hd, h1, h2, -beq_iff_eq]
  cases bk <;> cases bp <;> cases bc <;> cases bb <;> cases bd <;> cases be <;> rfl
theorem eql_op (x y : Opr) (W : World) : (binOp .eql 41 x.v y.v).run Tryz.prog W = .ok (.bool (decide (x = y))) W := by
  rw [run_eql_struct, eqlIn_op 9997]
  rfl



end Go.Proofs.YthhpjgdeehcgjaaGreat

/-
  Rows of operations: what the laws' helpers do.
-/
namespace Go.Proofs.YthhpjgdeehcgjaaGreat
set_option linter.unusedVariables false
set_option linter.unusedSimpArgs false
open Go.RowKit







end Go.Proofs.YthhpjgdeehcgjaaGreat

/-
  Which operations are valid, of the program.
-/
namespace Go.Proofs.YthhpjgdeehcgjaaGreat
set_option linter.unusedVariables false
set_option linter.unusedSimpArgs false
open Go.RowKit

def ndB (b a : Int) : Bool := bedM b && inB 0 a 23
theorem validNeedle_any (b a : Int) (w : World) : Calls Tryz.prog 48 #[.agg #[.int .i64 b, .int .i64 a]] w fun e w' => e = .returned (.bool (ndB b a)) ∧ Below w.heap.size w w' := by
  unfold ndB
  have H1 := Lib.hid (fun w' => isBed_s b w')
  generalize bedM b = B1 at *
  cases B1
  all_goals
    go_enter Tryz.func48, Tryz.ntmps48
    go_wp2_with fail
    refine (H1.out _).mono ?_
    rintro e w1 ⟨rfl, rfl⟩
  · go_wp2
    go_ret
    exact ⟨rfl, (Below.refl _ _).alloc (Nat.le_refl _) _⟩
  · go_wp2_with fail
    refine (within_s _ _ _ _).mono ?_
    rintro e w1 ⟨rfl, rfl⟩
    go_wp2
    go_ret
    exact ⟨rfl, (Below.refl _ _).alloc (Nat.le_refl _) _⟩
theorem isPair_any (fb fa tb ta : Int) (w : World) : Calls Tryz.prog 50 #[.agg #[.int .i64 fb, .int .i64 fa], .agg #[.int .i64 tb, .int .i64 ta]] w fun e w' => e = .returned (.bool (ndB fb fa && (ndB tb ta && decide (fb ≠ tb)))) ∧ Below w.heap.size w w' := by
  have H1 := Lib.hid (fun w' => validNeedle_any fb fa w')
  have H2 := Lib.hid (fun w' => validNeedle_any tb ta w')
  have e3 : (fb != tb) = decide (fb ≠ tb) := by rw [Bool.eq_iff_iff]; simp
  have HB0 := Lib.hid (show Below w.heap.size w ((w.alloc (.cells #[.int .i64 fb, .int .i64 fa] 39)).alloc (.cells #[.int .i64 tb, .int .i64 ta] 39)) from ((Below.refl _ _).alloc (Nat.le_refl _) _).alloc (by simp) _)
  have hca : CellsAt ((w.alloc (.cells #[.int .i64 fb, .int .i64 fa] 39)).alloc (.cells #[.int .i64 tb, .int .i64 ta] 39)) w.heap.size 0 [.int .i64 fb, .int .i64 fa] := by
    intro j u hu; rcases j with _ | _ | j <;> simp at hu <;> subst hu <;> simp [go_sem]
  have hcb : CellsAt ((w.alloc (.cells #[.int .i64 fb, .int .i64 fa] 39)).alloc (.cells #[.int .i64 tb, .int .i64 ta] 39)) (w.heap.size + 1) 0 [.int .i64 tb, .int .i64 ta] := by
    intro j u hu; rcases j with _ | _ | j <;> simp at hu <;> subst hu <;> simp [go_sem]
  have HCA := Lib.hid hca
  have HCB := Lib.hid hcb
  clear hca hcb
  generalize ndB fb fa = B1 at *
  generalize ndB tb ta = B2 at *
  generalize decide (fb ≠ tb) = B3 at *
  cases B1
  · go_enter Tryz.func50, Tryz.ntmps50
    go_wp2_with fail
    refine (H1.out _).mono ?_
    rintro e w1 ⟨rfl, hb⟩
    have HB := Lib.hid (HB0.out.trans (hb.mono HB0.out.size))
    clear hb
    go_wp2
    go_ret
    exact ⟨rfl, HB.out⟩
  cases B2
  all_goals
    go_enter Tryz.func50, Tryz.ntmps50
    go_wp2_with fail
    refine (H1.out _).mono ?_
    rintro e w1 ⟨rfl, hb⟩
    have HB1 := Lib.hid (HB0.out.trans (hb.mono HB0.out.size))
    obtain ⟨y0, y1⟩ := (HCA.out.below hb (by simp; try omega)).two
    obtain ⟨x0, x1⟩ := (HCB.out.below hb (by simp; try omega)).two
    have HCA1 := Lib.hid (HCA.out.below hb (by simp; try omega))
    have HCB1 := Lib.hid (HCB.out.below hb (by simp; try omega))
    have HZ1 := Lib.hid (show w.heap.size + 2 ≤ w1.heap.size by have := hb.size; simp at this; omega)
    clear hb
    go_wp2_with fail
    refine (H2.out _).mono ?_
    rintro e w2 ⟨rfl, hb⟩
    have HB2 := Lib.hid (HB1.out.trans (hb.mono HB1.out.size))
    clear y0 y1 x0 x1
    obtain ⟨y0, y1⟩ := (HCA1.out.below hb (by have := HZ1.out; omega)).two
    obtain ⟨x0, x1⟩ := (HCB1.out.below hb (by have := HZ1.out; omega)).two
    clear hb
  · go_wp2
    go_ret
    exact ⟨rfl, HB2.out⟩
  · cases B3
    all_goals
      go_wp2
      go_ret
      exact ⟨ret_bool (by simp), HB2.out⟩

set_option maxHeartbeats 4000000 in
set_option maxRecDepth 100000 in
theorem validOp_1 (k : Int) (hk : k = 1 ∨ k = 2 ∨ k = 3) (d fb fa tb ta c r : Int) (w : World) : Calls Tryz.prog 24 #[(⟨k, d, fb, fa, tb, ta, c, r⟩ : Opr).v] w fun e w' => e = .returned (.bool (dirM d && (ndB fb fa && (inB 1 c 4 && ((decide (tb = 0) && decide (ta = 0)) && (decide (r = 0))))))) ∧ Below w.heap.size w w' := by
  have HB0 := Lib.hid (show Below w.heap.size w (w.alloc (.cells #[.int .i64 k, .int .i64 d, .int .i64 fb, .int .i64 fa, .int .i64 tb, .int .i64 ta, .int .i64 c, .int .i64 r] 41)) from (Below.refl _ _).alloc (Nat.le_refl _) _)
  have hca : CellsAt (w.alloc (.cells #[.int .i64 k, .int .i64 d, .int .i64 fb, .int .i64 fa, .int .i64 tb, .int .i64 ta, .int .i64 c, .int .i64 r] 41)) w.heap.size 0 [.int .i64 k, .int .i64 d, .int .i64 fb, .int .i64 fa, .int .i64 tb, .int .i64 ta, .int .i64 c, .int .i64 r] := CellsAt.of_alloc
  have HCA := Lib.hid hca
  clear hca
  have H0 := Lib.hid (fun w' => isDirection_s d w')
  have H1 := Lib.hid (fun w' => validNeedle_any fb fa w')
  have H2 := Lib.hid (fun w' => isCarrier_s c w')
  have e3 := fun W => eql_nd tb ta 0 0 W
  have e4 : (r == 0) = decide (r = 0) := rfl
  generalize dirM d = B0 at *
  generalize ndB fb fa = B1 at *
  generalize inB 1 c 4 = B2 at *
  generalize (decide (tb = 0) && decide (ta = 0)) = B3 at *
  generalize decide (r = 0) = B4 at *
  rcases hk with rfl | rfl | rfl
  all_goals
    cases B0
    · skip
      go_enter Tryz.func24, Tryz.ntmps24
      go_wp2_with fail
      refine (H0.out _).mono ?_
      rintro e w1 ⟨rfl, rfl⟩
      go_wp2
      go_ret
      exact ⟨ret_bool (by simp), HB0.out⟩
    cases B1
    · skip
      go_enter Tryz.func24, Tryz.ntmps24
      go_wp2_with fail
      refine (H0.out _).mono ?_
      rintro e w1 ⟨rfl, rfl⟩
      go_wp2_with fail
      refine (H1.out _).mono ?_
      rintro e w2 ⟨rfl, hb⟩
      have HBB1 := Lib.hid (HB0.out.trans (hb.mono HB0.out.size))
      have HCA1 := Lib.hid (HCA.out.below hb (by have := HB0.out.size; simp; try omega))
      obtain ⟨y0, y1, y2, y3, y4, y5, y6, y7⟩ := HCA1.out.eight
      clear hb
      go_wp2
      go_ret
      exact ⟨ret_bool (by simp), HBB1.out⟩
    cases B2
    · skip
      go_enter Tryz.func24, Tryz.ntmps24
      go_wp2_with fail
      refine (H0.out _).mono ?_
      rintro e w1 ⟨rfl, rfl⟩
      go_wp2_with fail
      refine (H1.out _).mono ?_
      rintro e w2 ⟨rfl, hb⟩
      have HBB1 := Lib.hid (HB0.out.trans (hb.mono HB0.out.size))
      have HCA1 := Lib.hid (HCA.out.below hb (by have := HB0.out.size; simp; try omega))
      obtain ⟨y0, y1, y2, y3, y4, y5, y6, y7⟩ := HCA1.out.eight
      clear hb
      go_wp2_with fail
      refine (H2.out _).mono ?_
      rintro e w3 ⟨rfl, rfl⟩
      go_wp2
      go_ret
      exact ⟨ret_bool (by simp), HBB1.out⟩
    cases B3
    · skip
      go_enter Tryz.func24, Tryz.ntmps24
      go_wp2_with fail
      refine (H0.out _).mono ?_
      rintro e w1 ⟨rfl, rfl⟩
      go_wp2_with fail
      refine (H1.out _).mono ?_
      rintro e w2 ⟨rfl, hb⟩
      have HBB1 := Lib.hid (HB0.out.trans (hb.mono HB0.out.size))
      have HCA1 := Lib.hid (HCA.out.below hb (by have := HB0.out.size; simp; try omega))
      obtain ⟨y0, y1, y2, y3, y4, y5, y6, y7⟩ := HCA1.out.eight
      clear hb
      go_wp2_with fail
      refine (H2.out _).mono ?_
      rintro e w3 ⟨rfl, rfl⟩
      go_wp2
      go_ret
      exact ⟨ret_bool (by simp), HBB1.out⟩
    cases B4
    all_goals
      go_enter Tryz.func24, Tryz.ntmps24
      go_wp2_with fail
      refine (H0.out _).mono ?_
      rintro e w1 ⟨rfl, rfl⟩
      go_wp2_with fail
      refine (H1.out _).mono ?_
      rintro e w2 ⟨rfl, hb⟩
      have HBB1 := Lib.hid (HB0.out.trans (hb.mono HB0.out.size))
      have HCA1 := Lib.hid (HCA.out.below hb (by have := HB0.out.size; simp; try omega))
      obtain ⟨y0, y1, y2, y3, y4, y5, y6, y7⟩ := HCA1.out.eight
      clear hb
      go_wp2_with fail
      refine (H2.out _).mono ?_
      rintro e w3 ⟨rfl, rfl⟩
      go_wp2
      go_ret
      exact ⟨ret_bool (by simp), HBB1.out⟩

set_option maxHeartbeats 4000000 in
set_option maxRecDepth 100000 in
theorem validOp_4 (d fb fa tb ta c r : Int) (w : World) : Calls Tryz.prog 24 #[(⟨4, d, fb, fa, tb, ta, c, r⟩ : Opr).v] w fun e w' => e = .returned (.bool ((ndB fb fa && (ndB tb ta && decide (fb ≠ tb))) && (decide (d = 0) && (decide (c = 0) && (decide (r = 0)))))) ∧ Below w.heap.size w w' := by
  have HB0 := Lib.hid (show Below w.heap.size w (w.alloc (.cells #[.int .i64 4, .int .i64 d, .int .i64 fb, .int .i64 fa, .int .i64 tb, .int .i64 ta, .int .i64 c, .int .i64 r] 41)) from (Below.refl _ _).alloc (Nat.le_refl _) _)
  have hca : CellsAt (w.alloc (.cells #[.int .i64 4, .int .i64 d, .int .i64 fb, .int .i64 fa, .int .i64 tb, .int .i64 ta, .int .i64 c, .int .i64 r] 41)) w.heap.size 0 [.int .i64 4, .int .i64 d, .int .i64 fb, .int .i64 fa, .int .i64 tb, .int .i64 ta, .int .i64 c, .int .i64 r] := CellsAt.of_alloc
  have HCA := Lib.hid hca
  clear hca
  have H0 := Lib.hid (fun w' => isPair_any fb fa tb ta w')
  have e1 : (d == 0) = decide (d = 0) := rfl
  have e2 : (c == 0) = decide (c = 0) := rfl
  have e3 : (r == 0) = decide (r = 0) := rfl
  generalize (ndB fb fa && (ndB tb ta && decide (fb ≠ tb))) = B0 at *
  generalize decide (d = 0) = B1 at *
  generalize decide (c = 0) = B2 at *
  generalize decide (r = 0) = B3 at *
  cases B0
  · skip
    go_enter Tryz.func24, Tryz.ntmps24
    go_wp2_with fail
    refine (H0.out _).mono ?_
    rintro e w1 ⟨rfl, hb⟩
    have HBB0 := Lib.hid (HB0.out.trans (hb.mono HB0.out.size))
    have HCA0 := Lib.hid (HCA.out.below hb (by have := HB0.out.size; simp; try omega))
    obtain ⟨y0, y1, y2, y3, y4, y5, y6, y7⟩ := HCA0.out.eight
    clear hb
    go_wp2
    go_ret
    exact ⟨ret_bool (by simp), HBB0.out⟩
  cases B1
  · skip
    go_enter Tryz.func24, Tryz.ntmps24
    go_wp2_with fail
    refine (H0.out _).mono ?_
    rintro e w1 ⟨rfl, hb⟩
    have HBB0 := Lib.hid (HB0.out.trans (hb.mono HB0.out.size))
    have HCA0 := Lib.hid (HCA.out.below hb (by have := HB0.out.size; simp; try omega))
    obtain ⟨y0, y1, y2, y3, y4, y5, y6, y7⟩ := HCA0.out.eight
    clear hb
    go_wp2
    go_ret
    exact ⟨ret_bool (by simp), HBB0.out⟩
  cases B2
  · skip
    go_enter Tryz.func24, Tryz.ntmps24
    go_wp2_with fail
    refine (H0.out _).mono ?_
    rintro e w1 ⟨rfl, hb⟩
    have HBB0 := Lib.hid (HB0.out.trans (hb.mono HB0.out.size))
    have HCA0 := Lib.hid (HCA.out.below hb (by have := HB0.out.size; simp; try omega))
    obtain ⟨y0, y1, y2, y3, y4, y5, y6, y7⟩ := HCA0.out.eight
    clear hb
    go_wp2
    go_ret
    exact ⟨ret_bool (by simp), HBB0.out⟩
  cases B3
  all_goals
    go_enter Tryz.func24, Tryz.ntmps24
    go_wp2_with fail
    refine (H0.out _).mono ?_
    rintro e w1 ⟨rfl, hb⟩
    have HBB0 := Lib.hid (HB0.out.trans (hb.mono HB0.out.size))
    have HCA0 := Lib.hid (HCA.out.below hb (by have := HB0.out.size; simp; try omega))
    obtain ⟨y0, y1, y2, y3, y4, y5, y6, y7⟩ := HCA0.out.eight
    clear hb
    go_wp2
    go_ret
    exact ⟨ret_bool (by simp), HBB0.out⟩

set_option maxHeartbeats 4000000 in
set_option maxRecDepth 100000 in
theorem validOp_5 (d fb fa tb ta c r : Int) (w : World) : Calls Tryz.prog 24 #[(⟨5, d, fb, fa, tb, ta, c, r⟩ : Opr).v] w fun e w' => e = .returned (.bool ((ndB fb fa && (ndB tb ta && decide (fb ≠ tb))) && (dirM d && (inB 1 c 4 && (decide (r = 0)))))) ∧ Below w.heap.size w w' := by
  have HB0 := Lib.hid (show Below w.heap.size w (w.alloc (.cells #[.int .i64 5, .int .i64 d, .int .i64 fb, .int .i64 fa, .int .i64 tb, .int .i64 ta, .int .i64 c, .int .i64 r] 41)) from (Below.refl _ _).alloc (Nat.le_refl _) _)
  have hca : CellsAt (w.alloc (.cells #[.int .i64 5, .int .i64 d, .int .i64 fb, .int .i64 fa, .int .i64 tb, .int .i64 ta, .int .i64 c, .int .i64 r] 41)) w.heap.size 0 [.int .i64 5, .int .i64 d, .int .i64 fb, .int .i64 fa, .int .i64 tb, .int .i64 ta, .int .i64 c, .int .i64 r] := CellsAt.of_alloc
  have HCA := Lib.hid hca
  clear hca
  have H0 := Lib.hid (fun w' => isPair_any fb fa tb ta w')
  have H1 := Lib.hid (fun w' => isDirection_s d w')
  have H2 := Lib.hid (fun w' => isCarrier_s c w')
  have e3 : (r == 0) = decide (r = 0) := rfl
  generalize (ndB fb fa && (ndB tb ta && decide (fb ≠ tb))) = B0 at *
  generalize dirM d = B1 at *
  generalize inB 1 c 4 = B2 at *
  generalize decide (r = 0) = B3 at *
  cases B0
  · skip
    go_enter Tryz.func24, Tryz.ntmps24
    go_wp2_with fail
    refine (H0.out _).mono ?_
    rintro e w1 ⟨rfl, hb⟩
    have HBB0 := Lib.hid (HB0.out.trans (hb.mono HB0.out.size))
    have HCA0 := Lib.hid (HCA.out.below hb (by have := HB0.out.size; simp; try omega))
    obtain ⟨y0, y1, y2, y3, y4, y5, y6, y7⟩ := HCA0.out.eight
    clear hb
    go_wp2
    go_ret
    exact ⟨ret_bool (by simp), HBB0.out⟩
  cases B1
  · skip
    go_enter Tryz.func24, Tryz.ntmps24
    go_wp2_with fail
    refine (H0.out _).mono ?_
    rintro e w1 ⟨rfl, hb⟩
    have HBB0 := Lib.hid (HB0.out.trans (hb.mono HB0.out.size))
    have HCA0 := Lib.hid (HCA.out.below hb (by have := HB0.out.size; simp; try omega))
    obtain ⟨y0, y1, y2, y3, y4, y5, y6, y7⟩ := HCA0.out.eight
    clear hb
    go_wp2_with fail
    refine (H1.out _).mono ?_
    rintro e w2 ⟨rfl, rfl⟩
    go_wp2
    go_ret
    exact ⟨ret_bool (by simp), HBB0.out⟩
  cases B2
  · skip
    go_enter Tryz.func24, Tryz.ntmps24
    go_wp2_with fail
    refine (H0.out _).mono ?_
    rintro e w1 ⟨rfl, hb⟩
    have HBB0 := Lib.hid (HB0.out.trans (hb.mono HB0.out.size))
    have HCA0 := Lib.hid (HCA.out.below hb (by have := HB0.out.size; simp; try omega))
    obtain ⟨y0, y1, y2, y3, y4, y5, y6, y7⟩ := HCA0.out.eight
    clear hb
    go_wp2_with fail
    refine (H1.out _).mono ?_
    rintro e w2 ⟨rfl, rfl⟩
    go_wp2_with fail
    refine (H2.out _).mono ?_
    rintro e w3 ⟨rfl, rfl⟩
    go_wp2
    go_ret
    exact ⟨ret_bool (by simp), HBB0.out⟩
  cases B3
  all_goals
    go_enter Tryz.func24, Tryz.ntmps24
    go_wp2_with fail
    refine (H0.out _).mono ?_
    rintro e w1 ⟨rfl, hb⟩
    have HBB0 := Lib.hid (HB0.out.trans (hb.mono HB0.out.size))
    have HCA0 := Lib.hid (HCA.out.below hb (by have := HB0.out.size; simp; try omega))
    obtain ⟨y0, y1, y2, y3, y4, y5, y6, y7⟩ := HCA0.out.eight
    clear hb
    go_wp2_with fail
    refine (H1.out _).mono ?_
    rintro e w2 ⟨rfl, rfl⟩
    go_wp2_with fail
    refine (H2.out _).mono ?_
    rintro e w3 ⟨rfl, rfl⟩
    go_wp2
    go_ret
    exact ⟨ret_bool (by simp), HBB0.out⟩

set_option maxHeartbeats 4000000 in
set_option maxRecDepth 100000 in
theorem validOp_6 (d fb fa tb ta c r : Int) (w : World) : Calls Tryz.prog 24 #[(⟨6, d, fb, fa, tb, ta, c, r⟩ : Opr).v] w fun e w' => e = .returned (.bool (ndB fb fa && (decide ((⟨6, d, fb, fa, tb, ta, c, r⟩ : Opr) = ⟨6, 0, fb, fa, 0, 0, 0, 0⟩)))) ∧ Below w.heap.size w w' := by
  have HB0 := Lib.hid (show Below w.heap.size w (w.alloc (.cells #[.int .i64 6, .int .i64 d, .int .i64 fb, .int .i64 fa, .int .i64 tb, .int .i64 ta, .int .i64 c, .int .i64 r] 41)) from (Below.refl _ _).alloc (Nat.le_refl _) _)
  have hca : CellsAt (w.alloc (.cells #[.int .i64 6, .int .i64 d, .int .i64 fb, .int .i64 fa, .int .i64 tb, .int .i64 ta, .int .i64 c, .int .i64 r] 41)) w.heap.size 0 [.int .i64 6, .int .i64 d, .int .i64 fb, .int .i64 fa, .int .i64 tb, .int .i64 ta, .int .i64 c, .int .i64 r] := CellsAt.of_alloc
  have HCA := Lib.hid hca
  clear hca
  have H0 := Lib.hid (fun w' => validNeedle_any fb fa w')
  have e1 := fun W => eql_op ⟨6, d, fb, fa, tb, ta, c, r⟩ ⟨6, 0, fb, fa, 0, 0, 0, 0⟩ W
  generalize ndB fb fa = B0 at *
  generalize decide ((⟨6, d, fb, fa, tb, ta, c, r⟩ : Opr) = ⟨6, 0, fb, fa, 0, 0, 0, 0⟩) = B1 at *
  cases B0
  · skip
    go_enter Tryz.func24, Tryz.ntmps24
    go_wp2_with fail
    refine (H0.out _).mono ?_
    rintro e w1 ⟨rfl, hb⟩
    have HBB0 := Lib.hid (HB0.out.trans (hb.mono HB0.out.size))
    have HCA0 := Lib.hid (HCA.out.below hb (by have := HB0.out.size; simp; try omega))
    obtain ⟨y0, y1, y2, y3, y4, y5, y6, y7⟩ := HCA0.out.eight
    clear hb
    go_wp2
    go_ret
    exact ⟨ret_bool (by simp), HBB0.out⟩
  cases B1
  all_goals
    go_enter Tryz.func24, Tryz.ntmps24
    go_wp2_with fail
    refine (H0.out _).mono ?_
    rintro e w1 ⟨rfl, hb⟩
    have HBB0 := Lib.hid (HB0.out.trans (hb.mono HB0.out.size))
    have HCA0 := Lib.hid (HCA.out.below hb (by have := HB0.out.size; simp; try omega))
    obtain ⟨y0, y1, y2, y3, y4, y5, y6, y7⟩ := HCA0.out.eight
    clear hb
    go_wp2
    go_ret
    exact ⟨ret_bool (by simp), HBB0.out⟩

set_option maxHeartbeats 4000000 in
set_option maxRecDepth 100000 in
theorem validOp_7 (d fb fa tb ta c r : Int) (w : World) : Calls Tryz.prog 24 #[(⟨7, d, fb, fa, tb, ta, c, r⟩ : Opr).v] w fun e w' => e = .returned (.bool (inB (-3) r 3 && (decide ((⟨7, d, fb, fa, tb, ta, c, r⟩ : Opr) = ⟨7, 0, 0, 0, 0, 0, 0, r⟩)))) ∧ Below w.heap.size w w' := by
  have HB0 := Lib.hid (show Below w.heap.size w (w.alloc (.cells #[.int .i64 7, .int .i64 d, .int .i64 fb, .int .i64 fa, .int .i64 tb, .int .i64 ta, .int .i64 c, .int .i64 r] 41)) from (Below.refl _ _).alloc (Nat.le_refl _) _)
  have hca : CellsAt (w.alloc (.cells #[.int .i64 7, .int .i64 d, .int .i64 fb, .int .i64 fa, .int .i64 tb, .int .i64 ta, .int .i64 c, .int .i64 r] 41)) w.heap.size 0 [.int .i64 7, .int .i64 d, .int .i64 fb, .int .i64 fa, .int .i64 tb, .int .i64 ta, .int .i64 c, .int .i64 r] := CellsAt.of_alloc
  have HCA := Lib.hid hca
  clear hca
  have H0 := Lib.hid (fun w' => isRack_s r w')
  have e1 := fun W => eql_op ⟨7, d, fb, fa, tb, ta, c, r⟩ ⟨7, 0, 0, 0, 0, 0, 0, r⟩ W
  generalize inB (-3) r 3 = B0 at *
  generalize decide ((⟨7, d, fb, fa, tb, ta, c, r⟩ : Opr) = ⟨7, 0, 0, 0, 0, 0, 0, r⟩) = B1 at *
  cases B0
  · skip
    go_enter Tryz.func24, Tryz.ntmps24
    go_wp2_with fail
    refine (H0.out _).mono ?_
    rintro e w1 ⟨rfl, rfl⟩
    go_wp2
    go_ret
    exact ⟨ret_bool (by simp), HB0.out⟩
  cases B1
  all_goals
    go_enter Tryz.func24, Tryz.ntmps24
    go_wp2_with fail
    refine (H0.out _).mono ?_
    rintro e w1 ⟨rfl, rfl⟩
    go_wp2
    go_ret
    exact ⟨ret_bool (by simp), HB0.out⟩

set_option maxHeartbeats 4000000 in
set_option maxRecDepth 100000 in
theorem validOp_8 (d fb fa tb ta c r : Int) (w : World) : Calls Tryz.prog 24 #[(⟨8, d, fb, fa, tb, ta, c, r⟩ : Opr).v] w fun e w' => e = .returned (.bool (dirM d && (inB 1 c 4 && (decide ((⟨8, d, fb, fa, tb, ta, c, r⟩ : Opr) = ⟨8, d, 0, 0, 0, 0, c, 0⟩))))) ∧ Below w.heap.size w w' := by
  have HB0 := Lib.hid (show Below w.heap.size w (w.alloc (.cells #[.int .i64 8, .int .i64 d, .int .i64 fb, .int .i64 fa, .int .i64 tb, .int .i64 ta, .int .i64 c, .int .i64 r] 41)) from (Below.refl _ _).alloc (Nat.le_refl _) _)
  have hca : CellsAt (w.alloc (.cells #[.int .i64 8, .int .i64 d, .int .i64 fb, .int .i64 fa, .int .i64 tb, .int .i64 ta, .int .i64 c, .int .i64 r] 41)) w.heap.size 0 [.int .i64 8, .int .i64 d, .int .i64 fb, .int .i64 fa, .int .i64 tb, .int .i64 ta, .int .i64 c, .int .i64 r] := CellsAt.of_alloc
  have HCA := Lib.hid hca
  clear hca
  have H0 := Lib.hid (fun w' => isDirection_s d w')
  have H1 := Lib.hid (fun w' => isCarrier_s c w')
  have e2 := fun W => eql_op ⟨8, d, fb, fa, tb, ta, c, r⟩ ⟨8, d, 0, 0, 0, 0, c, 0⟩ W
  generalize dirM d = B0 at *
  generalize inB 1 c 4 = B1 at *
  generalize decide ((⟨8, d, fb, fa, tb, ta, c, r⟩ : Opr) = ⟨8, d, 0, 0, 0, 0, c, 0⟩) = B2 at *
  cases B0
  · skip
    go_enter Tryz.func24, Tryz.ntmps24
    go_wp2_with fail
    refine (H0.out _).mono ?_
    rintro e w1 ⟨rfl, rfl⟩
    go_wp2
    go_ret
    exact ⟨ret_bool (by simp), HB0.out⟩
  cases B1
  · skip
    go_enter Tryz.func24, Tryz.ntmps24
    go_wp2_with fail
    refine (H0.out _).mono ?_
    rintro e w1 ⟨rfl, rfl⟩
    go_wp2_with fail
    refine (H1.out _).mono ?_
    rintro e w2 ⟨rfl, rfl⟩
    go_wp2
    go_ret
    exact ⟨ret_bool (by simp), HB0.out⟩
  cases B2
  all_goals
    go_enter Tryz.func24, Tryz.ntmps24
    go_wp2_with fail
    refine (H0.out _).mono ?_
    rintro e w1 ⟨rfl, rfl⟩
    go_wp2_with fail
    refine (H1.out _).mono ?_
    rintro e w2 ⟨rfl, rfl⟩
    go_wp2
    go_ret
    exact ⟨ret_bool (by simp), HB0.out⟩

set_option maxHeartbeats 4000000 in
set_option maxRecDepth 100000 in
theorem validOp_9 (d fb fa tb ta c r : Int) (w : World) : Calls Tryz.prog 24 #[(⟨9, d, fb, fa, tb, ta, c, r⟩ : Opr).v] w fun e w' => e = .returned (.bool (inB 1 c 4 && (decide ((⟨9, d, fb, fa, tb, ta, c, r⟩ : Opr) = ⟨9, 0, 0, 0, 0, 0, c, 0⟩)))) ∧ Below w.heap.size w w' := by
  have HB0 := Lib.hid (show Below w.heap.size w (w.alloc (.cells #[.int .i64 9, .int .i64 d, .int .i64 fb, .int .i64 fa, .int .i64 tb, .int .i64 ta, .int .i64 c, .int .i64 r] 41)) from (Below.refl _ _).alloc (Nat.le_refl _) _)
  have hca : CellsAt (w.alloc (.cells #[.int .i64 9, .int .i64 d, .int .i64 fb, .int .i64 fa, .int .i64 tb, .int .i64 ta, .int .i64 c, .int .i64 r] 41)) w.heap.size 0 [.int .i64 9, .int .i64 d, .int .i64 fb, .int .i64 fa, .int .i64 tb, .int .i64 ta, .int .i64 c, .int .i64 r] := CellsAt.of_alloc
  have HCA := Lib.hid hca
  clear hca
  have H0 := Lib.hid (fun w' => isCarrier_s c w')
  have e1 := fun W => eql_op ⟨9, d, fb, fa, tb, ta, c, r⟩ ⟨9, 0, 0, 0, 0, 0, c, 0⟩ W
  generalize inB 1 c 4 = B0 at *
  generalize decide ((⟨9, d, fb, fa, tb, ta, c, r⟩ : Opr) = ⟨9, 0, 0, 0, 0, 0, c, 0⟩) = B1 at *
  cases B0
  · skip
    go_enter Tryz.func24, Tryz.ntmps24
    go_wp2_with fail
    refine (H0.out _).mono ?_
    rintro e w1 ⟨rfl, rfl⟩
    go_wp2
    go_ret
    exact ⟨ret_bool (by simp), HB0.out⟩
  cases B1
  all_goals
    go_enter Tryz.func24, Tryz.ntmps24
    go_wp2_with fail
    refine (H0.out _).mono ?_
    rintro e w1 ⟨rfl, rfl⟩
    go_wp2
    go_ret
    exact ⟨ret_bool (by simp), HB0.out⟩

set_option maxHeartbeats 2000000 in
theorem validOp_0 (k d fb fa tb ta c r : Int) (w : World) (h1 : (k == 1) = false) (h2 : (k == 2) = false) (h3 : (k == 3) = false) (h4 : (k == 4) = false) (h5 : (k == 5) = false) (h6 : (k == 6) = false) (h7 : (k == 7) = false) (h8 : (k == 8) = false) (h9 : (k == 9) = false) :
    Calls Tryz.prog 24 #[(⟨k, d, fb, fa, tb, ta, c, r⟩ : Opr).v] w fun e w' => e = .returned (.bool false) ∧ Below w.heap.size w w' := by
  go_enter Tryz.func24, Tryz.ntmps24
  go_wp2
  go_ret
  exact ⟨rfl, (Below.refl _ _).alloc (Nat.le_refl _) _⟩

/-- Is an operation valid? -/
def okOp (o : Opr) : Bool :=
  if o.k = 1 ∨ o.k = 2 ∨ o.k = 3 then dirM o.d && (ndB o.fb o.fa && (inB 1 o.c 4 && ((decide (o.tb = 0) && decide (o.ta = 0)) && decide (o.r = 0))))
  else if o.k = 4 then (ndB o.fb o.fa && (ndB o.tb o.ta && decide (o.fb ≠ o.tb))) && (decide (o.d = 0) && (decide (o.c = 0) && decide (o.r = 0)))
  else if o.k = 5 then (ndB o.fb o.fa && (ndB o.tb o.ta && decide (o.fb ≠ o.tb))) && (dirM o.d && (inB 1 o.c 4 && decide (o.r = 0)))
  else if o.k = 6 then ndB o.fb o.fa && decide (o = ⟨6, 0, o.fb, o.fa, 0, 0, 0, 0⟩)
  else if o.k = 7 then inB (-3) o.r 3 && decide (o = ⟨7, 0, 0, 0, 0, 0, 0, o.r⟩)
  else if o.k = 8 then dirM o.d && (inB 1 o.c 4 && decide (o = ⟨8, o.d, 0, 0, 0, 0, o.c, 0⟩))
  else if o.k = 9 then inB 1 o.c 4 && decide (o = ⟨9, 0, 0, 0, 0, 0, o.c, 0⟩)
  else false
theorem validOp_any (o : Opr) (w : World) : Calls Tryz.prog 24 #[o.v] w fun e w' => e = .returned (.bool (okOp o)) ∧ Below w.heap.size w w' := by
  obtain ⟨k, d, fb, fa, tb, ta, c, r⟩ := o
  by_cases h1 : k = 1 ∨ k = 2 ∨ k = 3
  · have := validOp_1 k h1 d fb fa tb ta c r w
    rwa [show okOp ⟨k, d, fb, fa, tb, ta, c, r⟩ = _ from if_pos h1]
  have hn : k ≠ 1 ∧ k ≠ 2 ∧ k ≠ 3 := by omega
  by_cases h4 : k = 4
  · subst h4; exact validOp_4 d fb fa tb ta c r w
  by_cases h5 : k = 5
  · subst h5; exact validOp_5 d fb fa tb ta c r w
  by_cases h6 : k = 6
  · subst h6; exact validOp_6 d fb fa tb ta c r w
  by_cases h7 : k = 7
  · subst h7; exact validOp_7 d fb fa tb ta c r w
  by_cases h8 : k = 8
  · subst h8; exact validOp_8 d fb fa tb ta c r w
  by_cases h9 : k = 9
  · subst h9; exact validOp_9 d fb fa tb ta c r w
  have e : okOp ⟨k, d, fb, fa, tb, ta, c, r⟩ = false := by unfold okOp; simp [hn.1, hn.2.1, hn.2.2, h4, h5, h6, h7, h8, h9]
  rw [e]
  exact validOp_0 k d fb fa tb ta c r w (by simpa using hn.1) (by simpa using hn.2.1) (by simpa using hn.2.2) (by simpa using h4) (by simpa using h5) (by simpa using h6) (by simpa using h7) (by simpa using h8) (by simpa using h9)

end Go.Proofs.YthhpjgdeehcgjaaGreat
