/-
  Texts joined: Op, OpS, OpV, OpW0, OpW1, OpW2, OpW3, OpW4, OpL, Plc, Pas.
-/
import Derived.Test.YtccdnmafakaleaaDoorRows
import Derived.Test.YtccdnmafakaleaaDoorMem
import Derived.Test.YtccdnmafakaleaaDoorWords
import Derived.Test.YtccdnmafakaleaaDoorMark
import Derived.Deep.OwnRows
import Derived.Test.YtccdnmafakaleaaDoorNst
import Derived.Test.YtccdnmafakaleaaDoorSm0
import Derived.Deep.RegionWith
/-
  Operations and needles as plain data, and what the laws' helpers for operations do.
-/
namespace Go.Proofs.YtccdnmafakaleaaDoor
set_option linter.unusedVariables false
set_option linter.unusedSimpArgs false
open Go.RowKit

structure Opr where
  k : Int
  d : Int
  fb : Int
  fa : Int
  tb : Int
  ta : Int
  c : Int
  r : Int
deriving DecidableEq
abbrev Opr.v (e : Opr) : Value := .agg #[.int .i64 e.k, .int .i64 e.d, .int .i64 e.fb, .int .i64 e.fa, .int .i64 e.tb, .int .i64 e.ta, .int .i64 e.c, .int .i64 e.r]
abbrev Opr.cells (e : Opr) : List Value := [.int .i64 e.k, .int .i64 e.d, .int .i64 e.fb, .int .i64 e.fa, .int .i64 e.tb, .int .i64 e.ta, .int .i64 e.c, .int .i64 e.r]
abbrev RdO := RdS Opr.cells 8
abbrev vO := vS Opr.cells
theorem Opr.len (e : Opr) : e.cells.length = 8 := rfl
theorem info_op : (Tryd.prog.info? 52).map (fun i => (i.zero, i.size, i.bytes)) = some (some (.agg #[.int .i64 0, .int .i64 0, .int .i64 0, .int .i64 0, .int .i64 0, .int .i64 0, .int .i64 0, .int .i64 0]), 8, 64) := by kernel_rfl
theorem rowIs_set8 {w : World} {b t n : Nat} {f : Nat → Value} (h : w.rowIs b t n f) (o : Nat) (u0 u1 u2 u3 u4 u5 u6 u7 : Value) :
    ((((((((w.setCell ⟨b, o, none⟩ u0).setCell ⟨b, o + 1, none⟩ u1).setCell ⟨b, o + 2, none⟩ u2).setCell ⟨b, o + 3, none⟩ u3).setCell ⟨b, o + 4, none⟩ u4).setCell ⟨b, o + 5, none⟩ u5).setCell ⟨b, o + 6, none⟩ u6).setCell ⟨b, o + 7, none⟩ u7).rowIs b t n
      (fun j => if j = o + 7 then u7 else if j = o + 6 then u6 else if j = o + 5 then u5 else if j = o + 4 then u4 else if j = o + 3 then u3 else if j = o + 2 then u2 else if j = o + 1 then u1 else if j = o then u0 else f j) :=
  (((((((h.set _ _).set _ _).set _ _).set _ _).set _ _).set _ _).set _ _).set _ _
theorem below_set8 {B : Nat} {a w : World} (h : Below B a w) {b o : Nat} (hb : B ≤ b) (u0 u1 u2 u3 u4 u5 u6 u7 : Value) :
    Below B a ((((((((w.setCell ⟨b, o, none⟩ u0).setCell ⟨b, o + 1, none⟩ u1).setCell ⟨b, o + 2, none⟩ u2).setCell ⟨b, o + 3, none⟩ u3).setCell ⟨b, o + 4, none⟩ u4).setCell ⟨b, o + 5, none⟩ u5).setCell ⟨b, o + 6, none⟩ u6).setCell ⟨b, o + 7, none⟩ u7) :=
  (((((((h.setCell hb _).setCell hb _).setCell hb _).setCell hb _).setCell hb _).setCell hb _).setCell hb _).setCell hb _
theorem fill8 {α : Type} {cs : α → List Value} {f : Nat → Value} {l : List α} {k : Nat} {x : α} {u0 u1 u2 u3 u4 u5 u6 u7 : Value} (hx : l[k]? = some x) (hc : cs x = [u0, u1, u2, u3, u4, u5, u6, u7])
    (hf : ∀ q x, q < k → l[q]? = some x → ∀ j, j < 8 → some (f (q * 8 + j)) = (cs x)[j]?) :
    ∀ q x, q < k + 1 → l[q]? = some x → ∀ j, j < 8 → some ((fun j => if j = k * 8 + 7 then u7 else if j = k * 8 + 6 then u6 else if j = k * 8 + 5 then u5 else if j = k * 8 + 4 then u4 else if j = k * 8 + 3 then u3 else if j = k * 8 + 2 then u2 else if j = k * 8 + 1 then u1 else if j = k * 8 then u0 else f j) (q * 8 + j)) = (cs x)[j]? := by
  intro q y hq hy j hj
  by_cases hqk : q = k
  · subst hqk
    rw [hx] at hy
    injection hy with hy
    subst hy
    rw [hc]
    obtain rfl | rfl | rfl | rfl | rfl | rfl | rfl | rfl : j = 0 ∨ j = 1 ∨ j = 2 ∨ j = 3 ∨ j = 4 ∨ j = 5 ∨ j = 6 ∨ j = 7 := by omega
    all_goals simp
  · show some (if q * 8 + j = k * 8 + 7 then u7 else if q * 8 + j = k * 8 + 6 then u6 else if q * 8 + j = k * 8 + 5 then u5 else if q * 8 + j = k * 8 + 4 then u4 else if q * 8 + j = k * 8 + 3 then u3 else if q * 8 + j = k * 8 + 2 then u2 else if q * 8 + j = k * 8 + 1 then u1 else if q * 8 + j = k * 8 then u0 else f (q * 8 + j)) = _
    rw [if_neg (by omega), if_neg (by omega), if_neg (by omega), if_neg (by omega), if_neg (by omega), if_neg (by omega), if_neg (by omega), if_neg (by omega)]
    exact hf q y (by omega) hy j hj

theorem eqlIn_nd (d : Nat) (a b p q : Int) (W : World) : (Op.equalIn (d + 2) 50 (.agg #[.int .i64 a, .int .i64 b]) (.agg #[.int .i64 p, .int .i64 q])).run Tryd.prog W = .ok (decide (a = p) && decide (b = q)) W := by
  rw [run_equalIn_struct (P := Tryd.prog) W (d + 1) 50 _ _ (by kernel_rfl) (by kernel_rfl)]
  have hf : (Tryd.prog.fieldsOf 50).toList = [⟨"Bed", 2, 0, false, "", "", 0⟩, ⟨"At", 2, 1, false, "", "", 8⟩] := by kernel_rfl
  rw [hf]
  generalize hk : decide (a = p) = bk
  generalize hp : decide (b = q) = bp
  have hk' : (a == p) = bk := by rw [← hk]; rfl
  have hp' : (b == q) = bp := by rw [← hp]; rfl
  simp [go_sem, Op.eqFields, hk', hp', -beq_iff_eq]
  cases bk <;> cases bp <;> rfl
theorem neq_nd (a b p q : Int) (W : World) : (binOp .neq 50 (.agg #[.int .i64 a, .int .i64 b]) (.agg #[.int .i64 p, .int .i64 q])).run Tryd.prog W = .ok (.bool (!(decide (a = p) && decide (b = q)))) W := by
  rw [run_neq_struct, eqlIn_nd 9998]
  rfl
theorem eql_nd (a b p q : Int) (W : World) : (binOp .eql 50 (.agg #[.int .i64 a, .int .i64 b]) (.agg #[.int .i64 p, .int .i64 q])).run Tryd.prog W = .ok (.bool (decide (a = p) && decide (b = q))) W := by
  rw [run_eql_struct, eqlIn_nd 9998]
  rfl

theorem eqlIn_op (d : Nat) (x y : Opr) (W : World) : (Op.equalIn (d + 3) 52 x.v y.v).run Tryd.prog W = .ok (decide (x = y)) W := by
  rw [run_equalIn_struct (P := Tryd.prog) W (d + 2) 52 _ _ (by kernel_rfl) (by kernel_rfl)]
  have hf : (Tryd.prog.fieldsOf 52).toList = [⟨"Kind", 2, 0, false, "", "", 0⟩, ⟨"Dir", 2, 1, false, "", "", 8⟩, ⟨"From", 50, 2, false, "", "", 16⟩, ⟨"To", 50, 4, false, "", "", 32⟩, ⟨"Carrier", 2, 6, false, "", "", 48⟩, ⟨"Rack", 2, 7, false, "", "", 56⟩] := by kernel_rfl
  rw [hf]
  have e : decide (x = y) = (x.k == y.k && (x.d == y.d && ((decide (x.fb = y.fb) && decide (x.fa = y.fa)) && ((decide (x.tb = y.tb) && decide (x.ta = y.ta)) && (x.c == y.c && x.r == y.r))))) := by
    cases x; cases y
    rw [Bool.eq_iff_iff]
    simp
    intro _ _
    exact ⟨fun ⟨a, b, c, d, e, f⟩ => ⟨⟨a, b⟩, ⟨c, d⟩, e, f⟩, fun ⟨⟨a, b⟩, ⟨c, d⟩, e, f⟩ => ⟨a, b, c, d, e, f⟩⟩
  rw [e]
  have h1 := fun W => eqlIn_nd d x.fb x.fa y.fb y.fa W
  have h2 := fun W => eqlIn_nd d x.tb x.ta y.tb y.ta W
  generalize (decide (x.fb = y.fb) && decide (x.fa = y.fa)) = bb at *
  generalize (decide (x.tb = y.tb) && decide (x.ta = y.ta)) = bd at *
  generalize hk : (x.k == y.k) = bk
  generalize hp : (x.d == y.d) = bp
  generalize hc : (x.c == y.c) = bc
  generalize hd : (x.r == y.r) = be
  simp [go_sem, Op.eqFields, hk, hp, hc, hd, h1, h2, -beq_iff_eq]
  cases bk <;> cases bp <;> cases bc <;> cases bb <;> cases bd <;> cases be <;> rfl
theorem neq_op (x y : Opr) (W : World) : (binOp .neq 52 x.v y.v).run Tryd.prog W = .ok (.bool (!decide (x = y))) W := by
  rw [run_neq_struct, eqlIn_op 9997]
  rfl
theorem eql_op (x y : Opr) (W : World) : (binOp .eql 52 x.v y.v).run Tryd.prog W = .ok (.bool (decide (x = y))) W := by
  rw [run_eql_struct, eqlIn_op 9997]
  rfl



end Go.Proofs.YtccdnmafakaleaaDoor

/-
  Rows of operations: what the laws' helpers do.
-/
namespace Go.Proofs.YtccdnmafakaleaaDoor
set_option linter.unusedVariables false
set_option linter.unusedSimpArgs false
open Go.RowKit







end Go.Proofs.YtccdnmafakaleaaDoor

/-
  Which operations are valid, of the program.
-/
namespace Go.Proofs.YtccdnmafakaleaaDoor
set_option linter.unusedVariables false
set_option linter.unusedSimpArgs false
open Go.RowKit

def ndB (b a : Int) : Bool := bedM b && inB 0 a 23
def nowE (P : Program) : Prop := True
theorem validNeedle_any (b a : Int) (w : World) : Calls Tryd.prog 112 #[.agg #[.int .i64 b, .int .i64 a]] w fun e w' => e = .returned (.bool (ndB b a)) ∧ Below w.heap.size w w' := by
  unfold ndB
  have H1 := Lib.hid (fun w' => isBed_s b w')
  generalize bedM b = B1 at *
  cases B1
  all_goals
    go_enter Tryd.func112, Tryd.ntmps112
    go_wp2_with fail
    refine (H1.out _).mono ?_
    rintro e w1 ⟨rfl, rfl⟩
  · go_wp2
    go_ret
    exact ⟨rfl, (Below.refl _ _).alloc (Nat.le_refl _) _⟩
  · go_wp2_with fail
    refine (within_s _ _ _ _).mono ?_
    rintro e w1 ⟨rfl, rfl⟩
    go_wp2
    go_ret
    exact ⟨rfl, (Below.refl _ _).alloc (Nat.le_refl _) _⟩
theorem isPair_any (fb fa tb ta : Int) (w : World) : Calls Tryd.prog 113 #[.agg #[.int .i64 fb, .int .i64 fa], .agg #[.int .i64 tb, .int .i64 ta]] w fun e w' => e = .returned (.bool (ndB fb fa && (ndB tb ta && decide (fb ≠ tb)))) ∧ Below w.heap.size w w' := by
  have H1 := Lib.hid (fun w' => validNeedle_any fb fa w')
  have H2 := Lib.hid (fun w' => validNeedle_any tb ta w')
  have e3 : (fb != tb) = decide (fb ≠ tb) := by rw [Bool.eq_iff_iff]; simp
  have HB0 := Lib.hid (show Below w.heap.size w ((w.alloc (.cells #[.int .i64 fb, .int .i64 fa] 50)).alloc (.cells #[.int .i64 tb, .int .i64 ta] 50)) from ((Below.refl _ _).alloc (Nat.le_refl _) _).alloc (by simp) _)
  have hca : CellsAt ((w.alloc (.cells #[.int .i64 fb, .int .i64 fa] 50)).alloc (.cells #[.int .i64 tb, .int .i64 ta] 50)) w.heap.size 0 [.int .i64 fb, .int .i64 fa] := by
    intro j u hu; rcases j with _ | _ | j <;> simp at hu <;> subst hu <;> simp [go_sem]
  have hcb : CellsAt ((w.alloc (.cells #[.int .i64 fb, .int .i64 fa] 50)).alloc (.cells #[.int .i64 tb, .int .i64 ta] 50)) (w.heap.size + 1) 0 [.int .i64 tb, .int .i64 ta] := by
    intro j u hu; rcases j with _ | _ | j <;> simp at hu <;> subst hu <;> simp [go_sem]
  have HCA := Lib.hid hca
  have HCB := Lib.hid hcb
  clear hca hcb
  generalize ndB fb fa = B1 at *
  generalize ndB tb ta = B2 at *
  generalize decide (fb ≠ tb) = B3 at *
  cases B1
  · go_enter Tryd.func113, Tryd.ntmps113
    go_wp2_with fail
    refine (H1.out _).mono ?_
    rintro e w1 ⟨rfl, hb⟩
    have HB := Lib.hid (HB0.out.trans (hb.mono HB0.out.size))
    clear hb
    go_wp2
    go_ret
    exact ⟨rfl, HB.out⟩
  cases B2
  all_goals
    go_enter Tryd.func113, Tryd.ntmps113
    go_wp2_with fail
    refine (H1.out _).mono ?_
    rintro e w1 ⟨rfl, hb⟩
    have HB1 := Lib.hid (HB0.out.trans (hb.mono HB0.out.size))
    obtain ⟨y0, y1⟩ := (HCA.out.below hb (by simp; try omega)).two
    obtain ⟨x0, x1⟩ := (HCB.out.below hb (by simp; try omega)).two
    have HCA1 := Lib.hid (HCA.out.below hb (by simp; try omega))
    have HCB1 := Lib.hid (HCB.out.below hb (by simp; try omega))
    have HZ1 := Lib.hid (show w.heap.size + 2 ≤ w1.heap.size by have := hb.size; simp at this; omega)
    clear hb
    go_wp2_with fail
    refine (H2.out _).mono ?_
    rintro e w2 ⟨rfl, hb⟩
    have HB2 := Lib.hid (HB1.out.trans (hb.mono HB1.out.size))
    clear y0 y1 x0 x1
    obtain ⟨y0, y1⟩ := (HCA1.out.below hb (by have := HZ1.out; omega)).two
    obtain ⟨x0, x1⟩ := (HCB1.out.below hb (by have := HZ1.out; omega)).two
    clear hb
  · go_wp2
    go_ret
    exact ⟨rfl, HB2.out⟩
  · cases B3
    all_goals
      go_wp2
      go_ret
      exact ⟨ret_bool (by simp), HB2.out⟩

set_option maxHeartbeats 4000000 in
set_option maxRecDepth 100000 in
theorem validOp_1 (k : Int) (hk : k = 1 ∨ k = 2 ∨ k = 3) (d fb fa tb ta c r : Int) (w : World) : Calls Tryd.prog 100 #[(⟨k, d, fb, fa, tb, ta, c, r⟩ : Opr).v] w fun e w' => e = .returned (.bool (dirM d && (ndB fb fa && (inB 1 c 4 && ((decide (tb = 0) && decide (ta = 0)) && (decide (r = 0))))))) ∧ Below w.heap.size w w' := by
  have HB0 := Lib.hid (show Below w.heap.size w (w.alloc (.cells #[.int .i64 k, .int .i64 d, .int .i64 fb, .int .i64 fa, .int .i64 tb, .int .i64 ta, .int .i64 c, .int .i64 r] 52)) from (Below.refl _ _).alloc (Nat.le_refl _) _)
  have hca : CellsAt (w.alloc (.cells #[.int .i64 k, .int .i64 d, .int .i64 fb, .int .i64 fa, .int .i64 tb, .int .i64 ta, .int .i64 c, .int .i64 r] 52)) w.heap.size 0 [.int .i64 k, .int .i64 d, .int .i64 fb, .int .i64 fa, .int .i64 tb, .int .i64 ta, .int .i64 c, .int .i64 r] := CellsAt.of_alloc
  have HCA := Lib.hid hca
  clear hca
  have H0 := Lib.hid (fun w' => isDirection_s d w')
  have H1 := Lib.hid (fun w' => validNeedle_any fb fa w')
  have H2 := Lib.hid (fun w' => isCarrier_s c w')
  have e3 := fun W => eql_nd tb ta 0 0 W
  have e4 : (r == 0) = decide (r = 0) := rfl
  generalize dirM d = B0 at *
  generalize ndB fb fa = B1 at *
  generalize inB 1 c 4 = B2 at *
  generalize (decide (tb = 0) && decide (ta = 0)) = B3 at *
  generalize decide (r = 0) = B4 at *
  rcases hk with rfl | rfl | rfl
  all_goals
    cases B0
    · skip
      go_enter Tryd.func100, Tryd.ntmps100
      go_wp2_with fail
      refine (H0.out _).mono ?_
      rintro e w1 ⟨rfl, rfl⟩
      go_wp2
      go_ret
      exact ⟨ret_bool (by simp), HB0.out⟩
    cases B1
    · skip
      go_enter Tryd.func100, Tryd.ntmps100
      go_wp2_with fail
      refine (H0.out _).mono ?_
      rintro e w1 ⟨rfl, rfl⟩
      go_wp2_with fail
      refine (H1.out _).mono ?_
      rintro e w2 ⟨rfl, hb⟩
      have HBB1 := Lib.hid (HB0.out.trans (hb.mono HB0.out.size))
      have HCA1 := Lib.hid (HCA.out.below hb (by have := HB0.out.size; simp; try omega))
      obtain ⟨y0, y1, y2, y3, y4, y5, y6, y7⟩ := HCA1.out.eight
      clear hb
      go_wp2
      go_ret
      exact ⟨ret_bool (by simp), HBB1.out⟩
    cases B2
    · skip
      go_enter Tryd.func100, Tryd.ntmps100
      go_wp2_with fail
      refine (H0.out _).mono ?_
      rintro e w1 ⟨rfl, rfl⟩
      go_wp2_with fail
      refine (H1.out _).mono ?_
      rintro e w2 ⟨rfl, hb⟩
      have HBB1 := Lib.hid (HB0.out.trans (hb.mono HB0.out.size))
      have HCA1 := Lib.hid (HCA.out.below hb (by have := HB0.out.size; simp; try omega))
      obtain ⟨y0, y1, y2, y3, y4, y5, y6, y7⟩ := HCA1.out.eight
      clear hb
      go_wp2_with fail
      refine (H2.out _).mono ?_
      rintro e w3 ⟨rfl, rfl⟩
      go_wp2
      go_ret
      exact ⟨ret_bool (by simp), HBB1.out⟩
    cases B3
    · skip
      go_enter Tryd.func100, Tryd.ntmps100
      go_wp2_with fail
      refine (H0.out _).mono ?_
      rintro e w1 ⟨rfl, rfl⟩
      go_wp2_with fail
      refine (H1.out _).mono ?_
      rintro e w2 ⟨rfl, hb⟩
      have HBB1 := Lib.hid (HB0.out.trans (hb.mono HB0.out.size))
      have HCA1 := Lib.hid (HCA.out.below hb (by have := HB0.out.size; simp; try omega))
      obtain ⟨y0, y1, y2, y3, y4, y5, y6, y7⟩ := HCA1.out.eight
      clear hb
      go_wp2_with fail
      refine (H2.out _).mono ?_
      rintro e w3 ⟨rfl, rfl⟩
      go_wp2
      go_ret
      exact ⟨ret_bool (by simp), HBB1.out⟩
    cases B4
    all_goals
      go_enter Tryd.func100, Tryd.ntmps100
      go_wp2_with fail
      refine (H0.out _).mono ?_
      rintro e w1 ⟨rfl, rfl⟩
      go_wp2_with fail
      refine (H1.out _).mono ?_
      rintro e w2 ⟨rfl, hb⟩
      have HBB1 := Lib.hid (HB0.out.trans (hb.mono HB0.out.size))
      have HCA1 := Lib.hid (HCA.out.below hb (by have := HB0.out.size; simp; try omega))
      obtain ⟨y0, y1, y2, y3, y4, y5, y6, y7⟩ := HCA1.out.eight
      clear hb
      go_wp2_with fail
      refine (H2.out _).mono ?_
      rintro e w3 ⟨rfl, rfl⟩
      go_wp2
      go_ret
      exact ⟨ret_bool (by simp), HBB1.out⟩

set_option maxHeartbeats 4000000 in
set_option maxRecDepth 100000 in
theorem validOp_4 (d fb fa tb ta c r : Int) (w : World) : Calls Tryd.prog 100 #[(⟨4, d, fb, fa, tb, ta, c, r⟩ : Opr).v] w fun e w' => e = .returned (.bool ((ndB fb fa && (ndB tb ta && decide (fb ≠ tb))) && (decide (d = 0) && (decide (c = 0) && (decide (r = 0)))))) ∧ Below w.heap.size w w' := by
  have HB0 := Lib.hid (show Below w.heap.size w (w.alloc (.cells #[.int .i64 4, .int .i64 d, .int .i64 fb, .int .i64 fa, .int .i64 tb, .int .i64 ta, .int .i64 c, .int .i64 r] 52)) from (Below.refl _ _).alloc (Nat.le_refl _) _)
  have hca : CellsAt (w.alloc (.cells #[.int .i64 4, .int .i64 d, .int .i64 fb, .int .i64 fa, .int .i64 tb, .int .i64 ta, .int .i64 c, .int .i64 r] 52)) w.heap.size 0 [.int .i64 4, .int .i64 d, .int .i64 fb, .int .i64 fa, .int .i64 tb, .int .i64 ta, .int .i64 c, .int .i64 r] := CellsAt.of_alloc
  have HCA := Lib.hid hca
  clear hca
  have H0 := Lib.hid (fun w' => isPair_any fb fa tb ta w')
  have e1 : (d == 0) = decide (d = 0) := rfl
  have e2 : (c == 0) = decide (c = 0) := rfl
  have e3 : (r == 0) = decide (r = 0) := rfl
  generalize (ndB fb fa && (ndB tb ta && decide (fb ≠ tb))) = B0 at *
  generalize decide (d = 0) = B1 at *
  generalize decide (c = 0) = B2 at *
  generalize decide (r = 0) = B3 at *
  cases B0
  · skip
    go_enter Tryd.func100, Tryd.ntmps100
    go_wp2_with fail
    refine (H0.out _).mono ?_
    rintro e w1 ⟨rfl, hb⟩
    have HBB0 := Lib.hid (HB0.out.trans (hb.mono HB0.out.size))
    have HCA0 := Lib.hid (HCA.out.below hb (by have := HB0.out.size; simp; try omega))
    obtain ⟨y0, y1, y2, y3, y4, y5, y6, y7⟩ := HCA0.out.eight
    clear hb
    go_wp2
    go_ret
    exact ⟨ret_bool (by simp), HBB0.out⟩
  cases B1
  · skip
    go_enter Tryd.func100, Tryd.ntmps100
    go_wp2_with fail
    refine (H0.out _).mono ?_
    rintro e w1 ⟨rfl, hb⟩
    have HBB0 := Lib.hid (HB0.out.trans (hb.mono HB0.out.size))
    have HCA0 := Lib.hid (HCA.out.below hb (by have := HB0.out.size; simp; try omega))
    obtain ⟨y0, y1, y2, y3, y4, y5, y6, y7⟩ := HCA0.out.eight
    clear hb
    go_wp2
    go_ret
    exact ⟨ret_bool (by simp), HBB0.out⟩
  cases B2
  · skip
    go_enter Tryd.func100, Tryd.ntmps100
    go_wp2_with fail
    refine (H0.out _).mono ?_
    rintro e w1 ⟨rfl, hb⟩
    have HBB0 := Lib.hid (HB0.out.trans (hb.mono HB0.out.size))
    have HCA0 := Lib.hid (HCA.out.below hb (by have := HB0.out.size; simp; try omega))
    obtain ⟨y0, y1, y2, y3, y4, y5, y6, y7⟩ := HCA0.out.eight
    clear hb
    go_wp2
    go_ret
    exact ⟨ret_bool (by simp), HBB0.out⟩
  cases B3
  all_goals
    go_enter Tryd.func100, Tryd.ntmps100
    go_wp2_with fail
    refine (H0.out _).mono ?_
    rintro e w1 ⟨rfl, hb⟩
    have HBB0 := Lib.hid (HB0.out.trans (hb.mono HB0.out.size))
    have HCA0 := Lib.hid (HCA.out.below hb (by have := HB0.out.size; simp; try omega))
    obtain ⟨y0, y1, y2, y3, y4, y5, y6, y7⟩ := HCA0.out.eight
    clear hb
    go_wp2
    go_ret
    exact ⟨ret_bool (by simp), HBB0.out⟩

set_option maxHeartbeats 4000000 in
set_option maxRecDepth 100000 in
theorem validOp_5 (d fb fa tb ta c r : Int) (w : World) : Calls Tryd.prog 100 #[(⟨5, d, fb, fa, tb, ta, c, r⟩ : Opr).v] w fun e w' => e = .returned (.bool ((ndB fb fa && (ndB tb ta && decide (fb ≠ tb))) && (dirM d && (inB 1 c 4 && (decide (r = 0)))))) ∧ Below w.heap.size w w' := by
  have HB0 := Lib.hid (show Below w.heap.size w (w.alloc (.cells #[.int .i64 5, .int .i64 d, .int .i64 fb, .int .i64 fa, .int .i64 tb, .int .i64 ta, .int .i64 c, .int .i64 r] 52)) from (Below.refl _ _).alloc (Nat.le_refl _) _)
  have hca : CellsAt (w.alloc (.cells #[.int .i64 5, .int .i64 d, .int .i64 fb, .int .i64 fa, .int .i64 tb, .int .i64 ta, .int .i64 c, .int .i64 r] 52)) w.heap.size 0 [.int .i64 5, .int .i64 d, .int .i64 fb, .int .i64 fa, .int .i64 tb, .int .i64 ta, .int .i64 c, .int .i64 r] := CellsAt.of_alloc
  have HCA := Lib.hid hca
  clear hca
  have H0 := Lib.hid (fun w' => isPair_any fb fa tb ta w')
  have H1 := Lib.hid (fun w' => isDirection_s d w')
  have H2 := Lib.hid (fun w' => isCarrier_s c w')
  have e3 : (r == 0) = decide (r = 0) := rfl
  generalize (ndB fb fa && (ndB tb ta && decide (fb ≠ tb))) = B0 at *
  generalize dirM d = B1 at *
  generalize inB 1 c 4 = B2 at *
  generalize decide (r = 0) = B3 at *
  cases B0
  · skip
    go_enter Tryd.func100, Tryd.ntmps100
    go_wp2_with fail
    refine (H0.out _).mono ?_
    rintro e w1 ⟨rfl, hb⟩
    have HBB0 := Lib.hid (HB0.out.trans (hb.mono HB0.out.size))
    have HCA0 := Lib.hid (HCA.out.below hb (by have := HB0.out.size; simp; try omega))
    obtain ⟨y0, y1, y2, y3, y4, y5, y6, y7⟩ := HCA0.out.eight
    clear hb
    go_wp2
    go_ret
    exact ⟨ret_bool (by simp), HBB0.out⟩
  cases B1
  · skip
    go_enter Tryd.func100, Tryd.ntmps100
    go_wp2_with fail
    refine (H0.out _).mono ?_
    rintro e w1 ⟨rfl, hb⟩
    have HBB0 := Lib.hid (HB0.out.trans (hb.mono HB0.out.size))
    have HCA0 := Lib.hid (HCA.out.below hb (by have := HB0.out.size; simp; try omega))
    obtain ⟨y0, y1, y2, y3, y4, y5, y6, y7⟩ := HCA0.out.eight
    clear hb
    go_wp2_with fail
    refine (H1.out _).mono ?_
    rintro e w2 ⟨rfl, rfl⟩
    go_wp2
    go_ret
    exact ⟨ret_bool (by simp), HBB0.out⟩
  cases B2
  · skip
    go_enter Tryd.func100, Tryd.ntmps100
    go_wp2_with fail
    refine (H0.out _).mono ?_
    rintro e w1 ⟨rfl, hb⟩
    have HBB0 := Lib.hid (HB0.out.trans (hb.mono HB0.out.size))
    have HCA0 := Lib.hid (HCA.out.below hb (by have := HB0.out.size; simp; try omega))
    obtain ⟨y0, y1, y2, y3, y4, y5, y6, y7⟩ := HCA0.out.eight
    clear hb
    go_wp2_with fail
    refine (H1.out _).mono ?_
    rintro e w2 ⟨rfl, rfl⟩
    go_wp2_with fail
    refine (H2.out _).mono ?_
    rintro e w3 ⟨rfl, rfl⟩
    go_wp2
    go_ret
    exact ⟨ret_bool (by simp), HBB0.out⟩
  cases B3
  all_goals
    go_enter Tryd.func100, Tryd.ntmps100
    go_wp2_with fail
    refine (H0.out _).mono ?_
    rintro e w1 ⟨rfl, hb⟩
    have HBB0 := Lib.hid (HB0.out.trans (hb.mono HB0.out.size))
    have HCA0 := Lib.hid (HCA.out.below hb (by have := HB0.out.size; simp; try omega))
    obtain ⟨y0, y1, y2, y3, y4, y5, y6, y7⟩ := HCA0.out.eight
    clear hb
    go_wp2_with fail
    refine (H1.out _).mono ?_
    rintro e w2 ⟨rfl, rfl⟩
    go_wp2_with fail
    refine (H2.out _).mono ?_
    rintro e w3 ⟨rfl, rfl⟩
    go_wp2
    go_ret
    exact ⟨ret_bool (by simp), HBB0.out⟩

set_option maxHeartbeats 4000000 in
set_option maxRecDepth 100000 in
theorem validOp_6 (d fb fa tb ta c r : Int) (w : World) : Calls Tryd.prog 100 #[(⟨6, d, fb, fa, tb, ta, c, r⟩ : Opr).v] w fun e w' => e = .returned (.bool (ndB fb fa && (decide ((⟨6, d, fb, fa, tb, ta, c, r⟩ : Opr) = ⟨6, 0, fb, fa, 0, 0, 0, 0⟩)))) ∧ Below w.heap.size w w' := by
  have HB0 := Lib.hid (show Below w.heap.size w (w.alloc (.cells #[.int .i64 6, .int .i64 d, .int .i64 fb, .int .i64 fa, .int .i64 tb, .int .i64 ta, .int .i64 c, .int .i64 r] 52)) from (Below.refl _ _).alloc (Nat.le_refl _) _)
  have hca : CellsAt (w.alloc (.cells #[.int .i64 6, .int .i64 d, .int .i64 fb, .int .i64 fa, .int .i64 tb, .int .i64 ta, .int .i64 c, .int .i64 r] 52)) w.heap.size 0 [.int .i64 6, .int .i64 d, .int .i64 fb, .int .i64 fa, .int .i64 tb, .int .i64 ta, .int .i64 c, .int .i64 r] := CellsAt.of_alloc
  have HCA := Lib.hid hca
  clear hca
  have H0 := Lib.hid (fun w' => validNeedle_any fb fa w')
  have e1 := fun W => eql_op ⟨6, d, fb, fa, tb, ta, c, r⟩ ⟨6, 0, fb, fa, 0, 0, 0, 0⟩ W
  generalize ndB fb fa = B0 at *
  generalize decide ((⟨6, d, fb, fa, tb, ta, c, r⟩ : Opr) = ⟨6, 0, fb, fa, 0, 0, 0, 0⟩) = B1 at *
  cases B0
  · skip
    go_enter Tryd.func100, Tryd.ntmps100
    go_wp2_with fail
    refine (H0.out _).mono ?_
    rintro e w1 ⟨rfl, hb⟩
    have HBB0 := Lib.hid (HB0.out.trans (hb.mono HB0.out.size))
    have HCA0 := Lib.hid (HCA.out.below hb (by have := HB0.out.size; simp; try omega))
    obtain ⟨y0, y1, y2, y3, y4, y5, y6, y7⟩ := HCA0.out.eight
    clear hb
    go_wp2
    go_ret
    exact ⟨ret_bool (by simp), HBB0.out⟩
  cases B1
  all_goals
    go_enter Tryd.func100, Tryd.ntmps100
    go_wp2_with fail
    refine (H0.out _).mono ?_
    rintro e w1 ⟨rfl, hb⟩
    have HBB0 := Lib.hid (HB0.out.trans (hb.mono HB0.out.size))
    have HCA0 := Lib.hid (HCA.out.below hb (by have := HB0.out.size; simp; try omega))
    obtain ⟨y0, y1, y2, y3, y4, y5, y6, y7⟩ := HCA0.out.eight
    clear hb
    go_wp2
    go_ret
    exact ⟨ret_bool (by simp), HBB0.out⟩

set_option maxHeartbeats 4000000 in
set_option maxRecDepth 100000 in
theorem validOp_7 (d fb fa tb ta c r : Int) (w : World) : Calls Tryd.prog 100 #[(⟨7, d, fb, fa, tb, ta, c, r⟩ : Opr).v] w fun e w' => e = .returned (.bool (inB (-3) r 3 && (decide ((⟨7, d, fb, fa, tb, ta, c, r⟩ : Opr) = ⟨7, 0, 0, 0, 0, 0, 0, r⟩)))) ∧ Below w.heap.size w w' := by
  have HB0 := Lib.hid (show Below w.heap.size w (w.alloc (.cells #[.int .i64 7, .int .i64 d, .int .i64 fb, .int .i64 fa, .int .i64 tb, .int .i64 ta, .int .i64 c, .int .i64 r] 52)) from (Below.refl _ _).alloc (Nat.le_refl _) _)
  have hca : CellsAt (w.alloc (.cells #[.int .i64 7, .int .i64 d, .int .i64 fb, .int .i64 fa, .int .i64 tb, .int .i64 ta, .int .i64 c, .int .i64 r] 52)) w.heap.size 0 [.int .i64 7, .int .i64 d, .int .i64 fb, .int .i64 fa, .int .i64 tb, .int .i64 ta, .int .i64 c, .int .i64 r] := CellsAt.of_alloc
  have HCA := Lib.hid hca
  clear hca
  have H0 := Lib.hid (fun w' => isRack_s r w')
  have e1 := fun W => eql_op ⟨7, d, fb, fa, tb, ta, c, r⟩ ⟨7, 0, 0, 0, 0, 0, 0, r⟩ W
  generalize inB (-3) r 3 = B0 at *
  generalize decide ((⟨7, d, fb, fa, tb, ta, c, r⟩ : Opr) = ⟨7, 0, 0, 0, 0, 0, 0, r⟩) = B1 at *
  cases B0
  · skip
    go_enter Tryd.func100, Tryd.ntmps100
    go_wp2_with fail
    refine (H0.out _).mono ?_
    rintro e w1 ⟨rfl, rfl⟩
    go_wp2
    go_ret
    exact ⟨ret_bool (by simp), HB0.out⟩
  cases B1
  all_goals
    go_enter Tryd.func100, Tryd.ntmps100
    go_wp2_with fail
    refine (H0.out _).mono ?_
    rintro e w1 ⟨rfl, rfl⟩
    go_wp2
    go_ret
    exact ⟨ret_bool (by simp), HB0.out⟩

set_option maxHeartbeats 4000000 in
set_option maxRecDepth 100000 in
theorem validOp_8 (d fb fa tb ta c r : Int) (w : World) : Calls Tryd.prog 100 #[(⟨8, d, fb, fa, tb, ta, c, r⟩ : Opr).v] w fun e w' => e = .returned (.bool (dirM d && (inB 1 c 4 && (decide ((⟨8, d, fb, fa, tb, ta, c, r⟩ : Opr) = ⟨8, d, 0, 0, 0, 0, c, 0⟩))))) ∧ Below w.heap.size w w' := by
  have HB0 := Lib.hid (show Below w.heap.size w (w.alloc (.cells #[.int .i64 8, .int .i64 d, .int .i64 fb, .int .i64 fa, .int .i64 tb, .int .i64 ta, .int .i64 c, .int .i64 r] 52)) from (Below.refl _ _).alloc (Nat.le_refl _) _)
  have hca : CellsAt (w.alloc (.cells #[.int .i64 8, .int .i64 d, .int .i64 fb, .int .i64 fa, .int .i64 tb, .int .i64 ta, .int .i64 c, .int .i64 r] 52)) w.heap.size 0 [.int .i64 8, .int .i64 d, .int .i64 fb, .int .i64 fa, .int .i64 tb, .int .i64 ta, .int .i64 c, .int .i64 r] := CellsAt.of_alloc
  have HCA := Lib.hid hca
  clear hca
  have H0 := Lib.hid (fun w' => isDirection_s d w')
  have H1 := Lib.hid (fun w' => isCarrier_s c w')
  have e2 := fun W => eql_op ⟨8, d, fb, fa, tb, ta, c, r⟩ ⟨8, d, 0, 0, 0, 0, c, 0⟩ W
  generalize dirM d = B0 at *
  generalize inB 1 c 4 = B1 at *
  generalize decide ((⟨8, d, fb, fa, tb, ta, c, r⟩ : Opr) = ⟨8, d, 0, 0, 0, 0, c, 0⟩) = B2 at *
  cases B0
  · skip
    go_enter Tryd.func100, Tryd.ntmps100
    go_wp2_with fail
    refine (H0.out _).mono ?_
    rintro e w1 ⟨rfl, rfl⟩
    go_wp2
    go_ret
    exact ⟨ret_bool (by simp), HB0.out⟩
  cases B1
  · skip
    go_enter Tryd.func100, Tryd.ntmps100
    go_wp2_with fail
    refine (H0.out _).mono ?_
    rintro e w1 ⟨rfl, rfl⟩
    go_wp2_with fail
    refine (H1.out _).mono ?_
    rintro e w2 ⟨rfl, rfl⟩
    go_wp2
    go_ret
    exact ⟨ret_bool (by simp), HB0.out⟩
  cases B2
  all_goals
    go_enter Tryd.func100, Tryd.ntmps100
    go_wp2_with fail
    refine (H0.out _).mono ?_
    rintro e w1 ⟨rfl, rfl⟩
    go_wp2_with fail
    refine (H1.out _).mono ?_
    rintro e w2 ⟨rfl, rfl⟩
    go_wp2
    go_ret
    exact ⟨ret_bool (by simp), HB0.out⟩

set_option maxHeartbeats 4000000 in
set_option maxRecDepth 100000 in
theorem validOp_9 (d fb fa tb ta c r : Int) (w : World) : Calls Tryd.prog 100 #[(⟨9, d, fb, fa, tb, ta, c, r⟩ : Opr).v] w fun e w' => e = .returned (.bool (inB 1 c 4 && (decide ((⟨9, d, fb, fa, tb, ta, c, r⟩ : Opr) = ⟨9, 0, 0, 0, 0, 0, c, 0⟩)))) ∧ Below w.heap.size w w' := by
  have HB0 := Lib.hid (show Below w.heap.size w (w.alloc (.cells #[.int .i64 9, .int .i64 d, .int .i64 fb, .int .i64 fa, .int .i64 tb, .int .i64 ta, .int .i64 c, .int .i64 r] 52)) from (Below.refl _ _).alloc (Nat.le_refl _) _)
  have hca : CellsAt (w.alloc (.cells #[.int .i64 9, .int .i64 d, .int .i64 fb, .int .i64 fa, .int .i64 tb, .int .i64 ta, .int .i64 c, .int .i64 r] 52)) w.heap.size 0 [.int .i64 9, .int .i64 d, .int .i64 fb, .int .i64 fa, .int .i64 tb, .int .i64 ta, .int .i64 c, .int .i64 r] := CellsAt.of_alloc
  have HCA := Lib.hid hca
  clear hca
  have H0 := Lib.hid (fun w' => isCarrier_s c w')
  have e1 := fun W => eql_op ⟨9, d, fb, fa, tb, ta, c, r⟩ ⟨9, 0, 0, 0, 0, 0, c, 0⟩ W
  generalize inB 1 c 4 = B0 at *
  generalize decide ((⟨9, d, fb, fa, tb, ta, c, r⟩ : Opr) = ⟨9, 0, 0, 0, 0, 0, c, 0⟩) = B1 at *
  cases B0
  · skip
    go_enter Tryd.func100, Tryd.ntmps100
    go_wp2_with fail
    refine (H0.out _).mono ?_
    rintro e w1 ⟨rfl, rfl⟩
    go_wp2
    go_ret
    exact ⟨ret_bool (by simp), HB0.out⟩
  cases B1
  all_goals
    go_enter Tryd.func100, Tryd.ntmps100
    go_wp2_with fail
    refine (H0.out _).mono ?_
    rintro e w1 ⟨rfl, rfl⟩
    go_wp2
    go_ret
    exact ⟨ret_bool (by simp), HB0.out⟩

set_option maxHeartbeats 2000000 in
theorem validOp_0 (k d fb fa tb ta c r : Int) (w : World) (h1 : (k == 1) = false) (h2 : (k == 2) = false) (h3 : (k == 3) = false) (h4 : (k == 4) = false) (h5 : (k == 5) = false) (h6 : (k == 6) = false) (h7 : (k == 7) = false) (h8 : (k == 8) = false) (h9 : (k == 9) = false) :
    Calls Tryd.prog 100 #[(⟨k, d, fb, fa, tb, ta, c, r⟩ : Opr).v] w fun e w' => e = .returned (.bool false) ∧ Below w.heap.size w w' := by
  go_enter Tryd.func100, Tryd.ntmps100
  go_wp2
  go_ret
  exact ⟨rfl, (Below.refl _ _).alloc (Nat.le_refl _) _⟩

/-- Is an operation valid? -/
def okOp (o : Opr) : Bool :=
  if o.k = 1 ∨ o.k = 2 ∨ o.k = 3 then dirM o.d && (ndB o.fb o.fa && (inB 1 o.c 4 && ((decide (o.tb = 0) && decide (o.ta = 0)) && decide (o.r = 0))))
  else if o.k = 4 then (ndB o.fb o.fa && (ndB o.tb o.ta && decide (o.fb ≠ o.tb))) && (decide (o.d = 0) && (decide (o.c = 0) && decide (o.r = 0)))
  else if o.k = 5 then (ndB o.fb o.fa && (ndB o.tb o.ta && decide (o.fb ≠ o.tb))) && (dirM o.d && (inB 1 o.c 4 && decide (o.r = 0)))
  else if o.k = 6 then ndB o.fb o.fa && decide (o = ⟨6, 0, o.fb, o.fa, 0, 0, 0, 0⟩)
  else if o.k = 7 then inB (-3) o.r 3 && decide (o = ⟨7, 0, 0, 0, 0, 0, 0, o.r⟩)
  else if o.k = 8 then dirM o.d && (inB 1 o.c 4 && decide (o = ⟨8, o.d, 0, 0, 0, 0, o.c, 0⟩))
  else if o.k = 9 then inB 1 o.c 4 && decide (o = ⟨9, 0, 0, 0, 0, 0, o.c, 0⟩)
  else false
theorem validOp_any (o : Opr) (w : World) : Calls Tryd.prog 100 #[o.v] w fun e w' => e = .returned (.bool (okOp o)) ∧ Below w.heap.size w w' := by
  obtain ⟨k, d, fb, fa, tb, ta, c, r⟩ := o
  by_cases h1 : k = 1 ∨ k = 2 ∨ k = 3
  · have := validOp_1 k h1 d fb fa tb ta c r w
    rwa [show okOp ⟨k, d, fb, fa, tb, ta, c, r⟩ = _ from if_pos h1]
  have hn : k ≠ 1 ∧ k ≠ 2 ∧ k ≠ 3 := by omega
  by_cases h4 : k = 4
  · subst h4; exact validOp_4 d fb fa tb ta c r w
  by_cases h5 : k = 5
  · subst h5; exact validOp_5 d fb fa tb ta c r w
  by_cases h6 : k = 6
  · subst h6; exact validOp_6 d fb fa tb ta c r w
  by_cases h7 : k = 7
  · subst h7; exact validOp_7 d fb fa tb ta c r w
  by_cases h8 : k = 8
  · subst h8; exact validOp_8 d fb fa tb ta c r w
  by_cases h9 : k = 9
  · subst h9; exact validOp_9 d fb fa tb ta c r w
  have e : okOp ⟨k, d, fb, fa, tb, ta, c, r⟩ = false := by unfold okOp; simp [hn.1, hn.2.1, hn.2.2, h4, h5, h6, h7, h8, h9]
  rw [e]
  exact validOp_0 k d fb fa tb ta c r w (by simpa using hn.1) (by simpa using hn.2.1) (by simpa using hn.2.2) (by simpa using h4) (by simpa using h5) (by simpa using h6) (by simpa using h7) (by simpa using h8) (by simpa using h9)

end Go.Proofs.YtccdnmafakaleaaDoor

/-
  A needle, of the reference.
-/
namespace Go.Proofs.YtccdnmafakaleaaDoor
set_option linter.unusedVariables false
set_option linter.unusedSimpArgs false
open Go.RowKit


end Go.Proofs.YtccdnmafakaleaaDoor

/-
  Which operations are valid, of the reference: part 1.
-/
namespace Go.Proofs.YtccdnmafakaleaaDoor
set_option linter.unusedVariables false
set_option linter.unusedSimpArgs false
open Go.RowKit


end Go.Proofs.YtccdnmafakaleaaDoor

/-
  Which operations are valid, of the reference: part 2.
-/
namespace Go.Proofs.YtccdnmafakaleaaDoor
set_option linter.unusedVariables false
set_option linter.unusedSimpArgs false
open Go.RowKit


end Go.Proofs.YtccdnmafakaleaaDoor

/-
  Which operations are valid, of the reference: part 3.
-/
namespace Go.Proofs.YtccdnmafakaleaaDoor
set_option linter.unusedVariables false
set_option linter.unusedSimpArgs false
open Go.RowKit


end Go.Proofs.YtccdnmafakaleaaDoor

/-
  Which operations are valid, of the reference: part 4.
-/
namespace Go.Proofs.YtccdnmafakaleaaDoor
set_option linter.unusedVariables false
set_option linter.unusedSimpArgs false
open Go.RowKit


end Go.Proofs.YtccdnmafakaleaaDoor

/-
  Valid operations in a row, of program and reference.
-/
namespace Go.Proofs.YtccdnmafakaleaaDoor
set_option linter.unusedVariables false
set_option linter.unusedSimpArgs false
open Go.RowKit


/-- Is an operation valid for a width? -/
def okOpW (wd : Int) (o : Opr) : Bool := okOp o && (decide (o.fa < wd) && decide (o.ta < wd))
def opsB (wd : Int) (l : List Opr) : Bool := inB 1 wd 24 && (decide (l.length ≤ 1500) && l.all (okOpW wd))

set_option maxHeartbeats 1000000 in
set_option maxRecDepth 100000 in
theorem opClos_any (n : Int) (x : Opr) (g : Nat) (w : World) (hc : w.cell? ⟨g, 0, none⟩ = some (.int .i64 n)) (hg : g < w.heap.size) :
    Calls Tryd.prog 99 #[x.v, .pointer (some ⟨g, 0, none⟩)] w fun e w' => e = .returned (.bool (!okOpW n x)) ∧ Below w.heap.size w w' := by
  have HQ := Lib.hid (fun w' => validOp_any x w')
  have HC := Lib.hid hc
  have HE := Lib.hid (show (!okOpW n x) = (!okOp x || (decide (n ≤ x.fa) || decide (n ≤ x.ta))) by
    unfold okOpW
    have e1 : decide (x.fa < n) = !decide (n ≤ x.fa) := by rw [Bool.eq_iff_iff]; simp
    have e2 : decide (x.ta < n) = !decide (n ≤ x.ta) := by rw [Bool.eq_iff_iff]; simp
    rw [e1, e2]
    cases okOp x <;> cases decide (n ≤ x.fa) <;> cases decide (n ≤ x.ta) <;> rfl)
  rw [HE.out]
  clear hc HE
  obtain ⟨k, d, fb, fa, tb, ta, c, r⟩ := x
  simp only at HQ ⊢
  have HCA := Lib.hid (CellsAt.of_alloc (w := w) (us := [.int .i64 k, .int .i64 d, .int .i64 fb, .int .i64 fa, .int .i64 tb, .int .i64 ta, .int .i64 c, .int .i64 r]) (t := 52))
  have HB0 := Lib.hid (show Below w.heap.size w (w.alloc (.cells #[.int .i64 k, .int .i64 d, .int .i64 fb, .int .i64 fa, .int .i64 tb, .int .i64 ta, .int .i64 c, .int .i64 r] 52)) from (Below.refl _ _).alloc (Nat.le_refl _) _)
  generalize okOp ⟨k, d, fb, fa, tb, ta, c, r⟩ = B1 at *
  cases B1
  · go_enter Tryd.func99, Tryd.ntmps99
    go_wp2_with fail
    refine (HQ.out _).mono ?_
    rintro e w1 ⟨rfl, hb⟩
    have HB := Lib.hid (HB0.out.trans (hb.mono HB0.out.size))
    clear hb
    go_wp2
    go_ret
    exact ⟨ret_bool (by simp), HB.out⟩
  · by_cases h1 : n ≤ fa
    all_goals by_cases h2 : n ≤ ta
    all_goals
      go_enter Tryd.func99, Tryd.ntmps99
      go_wp2_with fail
      refine (HQ.out _).mono ?_
      rintro e w1 ⟨rfl, hb⟩
      have HB := Lib.hid (HB0.out.trans (hb.mono HB0.out.size))
      obtain ⟨y0, y1, y2, y3, y4, y5, y6, y7⟩ := (HCA.out.below hb (by simp)).eight
      have hcg : w1.cell? ⟨g, 0, none⟩ = some (.int .i64 n) := (HB.out.cell (p := ⟨g, 0, none⟩) hg).trans HC.out
      clear hb
      go_wp2
      go_ret
      exact ⟨ret_bool (by simp [h1, h2]), HB.out⟩
set_option maxHeartbeats 1000000 in
set_option maxRecDepth 100000 in
theorem opIdx_any (n : Int) (g : Nat) (v : Value) (l : List Opr) (w : World) (hl : RdO w w.heap.size v l) (hc : w.cell? ⟨g, 0, none⟩ = some (.int .i64 n)) :
    Calls Tryd.prog 111 #[v, .func (.func 99) #[] #[.pointer (some ⟨g, 0, none⟩)]] w fun e w' => e = .returned (.int .i64 (idxOf (fun x => !okOpW n x) l)) ∧ Below w.heap.size w w' := by
  obtain ⟨A, N, c, rfl, hln, hl, gl⟩ := hl
  have hg := block_lt_of_cell hc
  have HC := Lib.hid hc
  clear hc
  go_enter Tryd.func111, Tryd.ntmps111
  go_wp2
  go_loopw [5, 8] (fun _ i wr => ∃ k : Nat, k ≤ N ∧ i = .int .i64 k ∧ Hid (idxOf (fun x => !okOpW n x) l = idxFrom (fun x => !okOpW n x) k (l.drop k)) ∧ Below w.heap.size w wr) (fun _ i _ => N - (intOf i).toNat)
  case atStart => exact ⟨0, Nat.zero_le _, rfl, rfl, Below.refl _ _⟩
  case round =>
    rename_i wr
    obtain ⟨k, hk, rfl, hd, hb⟩ := hrel
    by_cases hlt : k < N
    · obtain ⟨b, off, x, rfl, hbb, hlk, hcc⟩ := gl k hlt
      obtain ⟨c0, c1, c2, c3, c4, c5, c6, c7⟩ := (hcc.below hb hbb).eight
      have HB := Lib.hid hb
      have Hl := Lib.hid hlk
      have HQ := Lib.hid (opClos_any n x g wr ((hb.cell (p := ⟨g, 0, none⟩) hg).trans HC.out) (by have := hb.size; omega))
      clear hb hlk gl hcc
      rcases hp : (!okOpW n x)
      · have HP := Lib.hid hp
        go_wp2_with fail
        refine HQ.out.mono ?_
        rintro e w1 ⟨rfl, hb1⟩
        rw [HP.out]
        have HB1 := HB.out.trans (hb1.mono HB.out.size)
        go_wp2
        exact ⟨⟨k + 1, by omega, by go_num, by unfold Hid; rw [hd.out, drop_of_get Hl.out]; simp [idxFrom, HP.out], HB1⟩, by simp [intOf]; omega⟩
      · have HP := Lib.hid hp
        go_wp2_with fail
        refine HQ.out.mono ?_
        rintro e w1 ⟨rfl, hb1⟩
        rw [HP.out]
        go_wp2
        go_ret
        exact ⟨ret_int (by rw [hd.out, drop_of_get Hl.out]; simp [idxFrom, HP.out]), HB.out.trans (hb1.mono HB.out.size)⟩
    · have HB := Lib.hid hb
      clear hb gl
      go_wp2
      go_ret
      exact ⟨ret_int (by rw [hd.out, List.drop_of_length_le (by have := hl.out; omega)]; rfl), HB.out⟩

set_option maxHeartbeats 1000000 in
set_option maxRecDepth 100000 in
theorem opCont_any (n : Int) (g : Nat) (v : Value) (l : List Opr) (w : World) (hl : RdO w w.heap.size v l) (hc : w.cell? ⟨g, 0, none⟩ = some (.int .i64 n)) :
    Calls Tryd.prog 98 #[v, .func (.func 99) #[] #[.pointer (some ⟨g, 0, none⟩)]] w fun e w' => e = .returned (.bool (!(l.all (okOpW n)))) ∧ Below w.heap.size w w' := by
  have hi := idxOf_any (fun x => !okOpW n x) l
  have HX := Lib.hid (opIdx_any n g v l w hl hc)
  have hx : (!(l.all (okOpW n))) = l.any (fun x => !okOpW n x) := by rw [List.not_all_eq_any_not]
  rw [hx]
  clear hl hc hx
  generalize hA : l.any (fun x => !okOpW n x) = A at hi ⊢
  generalize hI : idxOf (fun x => !okOpW n x) l = I at hi HX
  clear hI hA
  cases A
  · have h1 : ¬ 0 ≤ I := by simpa using hi
    clear hi
    go_enter Tryd.func98, Tryd.ntmps98
    go_wp2_with fail
    refine HX.out.mono ?_
    rintro e w1 ⟨rfl, hb1⟩
    go_wp2
    go_ret
    exact ⟨ret_bool (by simp [h1]), hb1⟩
  · have h1 : 0 ≤ I := by simpa using hi
    clear hi
    go_enter Tryd.func98, Tryd.ntmps98
    go_wp2_with fail
    refine HX.out.mono ?_
    rintro e w1 ⟨rfl, hb1⟩
    go_wp2
    go_ret
    exact ⟨ret_bool (by simp [h1]), hb1⟩

set_option maxHeartbeats 2000000 in
set_option maxRecDepth 100000 in
theorem validFor_any (n : Int) (v : Value) (l : List Opr) (w : World) (hl : RdO w w.heap.size v l) :
    Calls Tryd.prog 81 #[.int .i64 n, v] w fun e w' => e = .returned (.bool (opsB n l)) ∧ Below w.heap.size w w' := by
  obtain ⟨A, N, c, rfl, hln, hl', gl⟩ := hl
  have hl : RdO w w.heap.size (.slice A N c) l := ⟨A, N, c, rfl, hln, hl', gl⟩
  have HB0 := Lib.hid (show Below w.heap.size w (w.alloc (.cells #[.int .i64 n] 2)) from (Below.refl _ _).alloc (Nat.le_refl _) _)
  have HQ := Lib.hid (opCont_any n w.heap.size (.slice A N c) l (w.alloc (.cells #[.int .i64 n] 2)) (RdS.more (RdS.below hl HB0.out) HB0.out.size) (by simp [go_sem]))
  have HE := Lib.hid (show opsB n l = (inB 1 n 24 && (decide ((N : Int) ≤ 1500) && l.all (okOpW n))) by
    unfold opsB
    rw [hl'.out, show decide (N ≤ 1500) = decide ((N : Int) ≤ 1500) by rw [Bool.eq_iff_iff]; simp; omega])
  rw [HE.out]
  clear hl hl' gl HE
  generalize l.all (okOpW n) = R at *
  have H1 := Lib.hid (fun w' => within_s n 1 24 w')
  generalize inB 1 n 24 = B1 at *
  cases B1
  · go_enter Tryd.func81, Tryd.ntmps81
    go_wp2_with fail
    refine (H1.out _).mono ?_
    rintro e w1 ⟨rfl, rfl⟩
    go_wp2
    go_ret
    exact ⟨rfl, HB0.out⟩
  by_cases hN : (N : Int) ≤ 1500
  · have hd : decide ((N : Int) ≤ 1500) = true := by simpa using hN
    rw [hd]
    clear hd
    go_enter Tryd.func81, Tryd.ntmps81
    go_wp2_with fail
    refine (H1.out _).mono ?_
    rintro e w1 ⟨rfl, rfl⟩
    go_wp2_with fail
    refine HQ.out.mono ?_
    rintro e w1 ⟨rfl, hb⟩
    have HB := Lib.hid (HB0.out.trans (hb.mono HB0.out.size))
    clear hb
    go_wp2
    go_ret
    exact ⟨ret_bool (by simp), HB.out⟩
  · have hd : decide ((N : Int) ≤ 1500) = false := by simpa using hN
    rw [hd]
    clear hd
    go_enter Tryd.func81, Tryd.ntmps81
    go_wp2_with fail
    refine (H1.out _).mono ?_
    rintro e w1 ⟨rfl, rfl⟩
    go_wp2
    go_ret
    exact ⟨ret_bool (by simp), HB0.out⟩


end Go.Proofs.YtccdnmafakaleaaDoor

/-
  A needle's place, of program and reference.
-/
namespace Go.Proofs.YtccdnmafakaleaaDoor
set_option linter.unusedVariables false
set_option linter.unusedSimpArgs false
open Go.RowKit

/-- A needle's place. -/
def plc (b a r : Int) : Int := if b = 2 then a + r else a
theorem place_any (b a r : Int) (h0 : -100 ≤ a) (h1 : a ≤ 100) (h2 : -100 ≤ r) (h3 : r ≤ 100) (w : World) : Calls Tryd.prog 52 #[.agg #[.int .i64 b, .int .i64 a], .int .i64 r] w fun e w' => e = .returned (.int .i64 (plc b a r)) ∧ Below w.heap.size w w' := by
  unfold plc
  by_cases hb : b = 2
  · subst hb
    go_enter Tryd.func52, Tryd.ntmps52
    go_wp2
    go_ret
    exact ⟨ret_int (by simp), (Below.refl _ _).alloc (Nat.le_refl _) _⟩
  · have h2 : (b == 2) = false := by simpa using hb
    rw [if_neg hb]
    clear hb
    go_enter Tryd.func52, Tryd.ntmps52
    go_wp2
    go_ret
    exact ⟨rfl, (Below.refl _ _).alloc (Nat.le_refl _) _⟩
theorem l07Place_any (b a r : Int) (h0 : -100 ≤ a) (h1 : a ≤ 100) (h2 : -100 ≤ r) (h3 : r ≤ 100) (w : World) : Calls Tryd.prog 126 #[.agg #[.int .i64 b, .int .i64 a], .int .i64 r] w fun e w' => e = .returned (.int .i64 (plc b a r)) ∧ Below w.heap.size w w' := by
  unfold plc
  by_cases hb : b = 2
  · subst hb
    go_enter Tryd.func126, Tryd.ntmps126
    go_wp2
    go_ret
    exact ⟨ret_int (by simp), (Below.refl _ _).alloc (Nat.le_refl _) _⟩
  · have h2 : (b == 2) = false := by simpa using hb
    rw [if_neg hb]
    clear hb
    go_enter Tryd.func126, Tryd.ntmps126
    go_wp2
    go_ret
    exact ⟨rfl, (Below.refl _ _).alloc (Nat.le_refl _) _⟩

end Go.Proofs.YtccdnmafakaleaaDoor

/-
  Passes as plain data, and what the laws' helpers for passes do.
-/
namespace Go.Proofs.YtccdnmafakaleaaDoor
set_option linter.unusedVariables false
set_option linter.unusedSimpArgs false
open Go.RowKit

structure Pas where
  k : Int
  d : Int
  c : Int
  r : Int
  f : Int
  n : Int
deriving DecidableEq
abbrev Pas.v (e : Pas) : Value := .agg #[.int .i64 e.k, .int .i64 e.d, .int .i64 e.c, .int .i64 e.r, .int .i64 e.f, .int .i64 e.n]
abbrev Pas.cells (e : Pas) : List Value := [.int .i64 e.k, .int .i64 e.d, .int .i64 e.c, .int .i64 e.r, .int .i64 e.f, .int .i64 e.n]
abbrev RdPs := RdS Pas.cells 6
abbrev vPs := vS Pas.cells
theorem Pas.len (e : Pas) : e.cells.length = 6 := rfl
theorem info_ps : (Tryd.prog.info? 46).map (fun i => (i.zero, i.size, i.bytes)) = some (some (.agg #[.int .i64 0, .int .i64 0, .int .i64 0, .int .i64 0, .int .i64 0, .int .i64 0]), 6, 48) := by kernel_rfl

theorem eqlIn_ps (d : Nat) (x y : Pas) (W : World) : (Op.equalIn (d + 2) 46 x.v y.v).run Tryd.prog W = .ok (decide (x = y)) W := by
  rw [run_equalIn_struct (P := Tryd.prog) W (d + 1) 46 _ _ (by kernel_rfl) (by kernel_rfl)]
  have hf : (Tryd.prog.fieldsOf 46).toList = [⟨"Kind", 2, 0, false, "", "", 0⟩, ⟨"Dir", 2, 1, false, "", "", 8⟩, ⟨"Carrier", 2, 2, false, "", "", 16⟩, ⟨"Rack", 2, 3, false, "", "", 24⟩, ⟨"First", 2, 4, false, "", "", 32⟩, ⟨"Count", 2, 5, false, "", "", 40⟩] := by kernel_rfl
  rw [hf]
  have e : decide (x = y) = (x.k == y.k && (x.d == y.d && (x.c == y.c && (x.r == y.r && (x.f == y.f && x.n == y.n))))) := by cases x; cases y; simp [Bool.decide_and]; rfl
  rw [e]
  generalize hk : (x.k == y.k) = bk
  generalize hp : (x.d == y.d) = bp
  generalize hc : (x.c == y.c) = bc
  generalize hb : (x.r == y.r) = bb
  generalize hy : (x.f == y.f) = bd
  generalize hd : (x.n == y.n) = be
  simp [go_sem, Op.eqFields, hk, hp, hc, hb, hy, hd, -beq_iff_eq]
  cases bk <;> cases bp <;> cases bc <;> cases bb <;> cases bd <;> cases be <;> rfl
theorem neq_ps (x y : Pas) (W : World) : (binOp .neq 46 x.v y.v).run Tryd.prog W = .ok (.bool (!decide (x = y))) W := by
  rw [run_neq_struct, eqlIn_ps 9998]
  rfl
theorem eql_ps (x y : Pas) (W : World) : (binOp .eql 46 x.v y.v).run Tryd.prog W = .ok (.bool (decide (x = y))) W := by
  rw [run_eql_struct, eqlIn_ps 9998]
  rfl







end Go.Proofs.YtccdnmafakaleaaDoor
