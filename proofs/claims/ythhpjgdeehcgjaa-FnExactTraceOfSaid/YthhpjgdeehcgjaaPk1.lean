/-
  Texts joined: Op, OpS, OpV.
-/
import Derived.Test.YthhpjgdeehcgjaaRows
import Derived.Test.YthhpjgdeehcgjaaMem
import Derived.Test.YthhpjgdeehcgjaaWords
import Derived.Test.YthhpjgdeehcgjaaMark
import Derived.Deep.OwnRows
import Derived.Test.YthhpjgdeehcgjaaNst
import Derived.Test.YthhpjgdeehcgjaaSm0
/-
  Operations and needles as plain data, and what the laws' helpers for operations do.
-/
namespace Go.Proofs.Ythhpjgdeehcgjaa
set_option linter.unusedVariables false
set_option linter.unusedSimpArgs false
open Go.RowKit

structure Opr where
  k : Int
  d : Int
  fb : Int
  fa : Int
  tb : Int
  ta : Int
  c : Int
  r : Int
deriving DecidableEq
abbrev Opr.v (e : Opr) : Value := .agg #[.int .i64 e.k, .int .i64 e.d, .int .i64 e.fb, .int .i64 e.fa, .int .i64 e.tb, .int .i64 e.ta, .int .i64 e.c, .int .i64 e.r]
abbrev Opr.cells (e : Opr) : List Value := [.int .i64 e.k, .int .i64 e.d, .int .i64 e.fb, .int .i64 e.fa, .int .i64 e.tb, .int .i64 e.ta, .int .i64 e.c, .int .i64 e.r]
abbrev RdO := RdS Opr.cells 8
abbrev vO := vS Opr.cells
theorem Opr.len (e : Opr) : e.cells.length = 8 := rfl
theorem info_op : (Try.prog.info? 43).map (fun i => (i.zero, i.size, i.bytes)) = some (some (.agg #[.int .i64 0, .int .i64 0, .int .i64 0, .int .i64 0, .int .i64 0, .int .i64 0, .int .i64 0, .int .i64 0]), 8, 64) := by kernel_rfl
theorem rowIs_set8 {w : World} {b t n : Nat} {f : Nat → Value} (h : w.rowIs b t n f) (o : Nat) (u0 u1 u2 u3 u4 u5 u6 u7 : Value) :
    ((((((((w.setCell ⟨b, o, none⟩ u0).setCell ⟨b, o + 1, none⟩ u1).setCell ⟨b, o + 2, none⟩ u2).setCell ⟨b, o + 3, none⟩ u3).setCell ⟨b, o + 4, none⟩ u4).setCell ⟨b, o + 5, none⟩ u5).setCell ⟨b, o + 6, none⟩ u6).setCell ⟨b, o + 7, none⟩ u7).rowIs b t n
      (fun j => if j = o + 7 then u7 else if j = o + 6 then u6 else if j = o + 5 then u5 else if j = o + 4 then u4 else if j = o + 3 then u3 else if j = o + 2 then u2 else if j = o + 1 then u1 else if j = o then u0 else f j) :=
  (((((((h.set _ _).set _ _).set _ _).set _ _).set _ _).set _ _).set _ _).set _ _
theorem below_set8 {B : Nat} {a w : World} (h : Below B a w) {b o : Nat} (hb : B ≤ b) (u0 u1 u2 u3 u4 u5 u6 u7 : Value) :
    Below B a ((((((((w.setCell ⟨b, o, none⟩ u0).setCell ⟨b, o + 1, none⟩ u1).setCell ⟨b, o + 2, none⟩ u2).setCell ⟨b, o + 3, none⟩ u3).setCell ⟨b, o + 4, none⟩ u4).setCell ⟨b, o + 5, none⟩ u5).setCell ⟨b, o + 6, none⟩ u6).setCell ⟨b, o + 7, none⟩ u7) :=
  (((((((h.setCell hb _).setCell hb _).setCell hb _).setCell hb _).setCell hb _).setCell hb _).setCell hb _).setCell hb _
theorem fill8 {α : Type} {cs : α → List Value} {f : Nat → Value} {l : List α} {k : Nat} {x : α} {u0 u1 u2 u3 u4 u5 u6 u7 : Value} (hx : l[k]? = some x) (hc : cs x = [u0, u1, u2, u3, u4, u5, u6, u7])
    (hf : ∀ q x, q < k → l[q]? = some x → ∀ j, j < 8 → some (f (q * 8 + j)) = (cs x)[j]?) :
    ∀ q x, q < k + 1 → l[q]? = some x → ∀ j, j < 8 → some ((fun j => if j = k * 8 + 7 then u7 else if j = k * 8 + 6 then u6 else if j = k * 8 + 5 then u5 else if j = k * 8 + 4 then u4 else if j = k * 8 + 3 then u3 else if j = k * 8 + 2 then u2 else if j = k * 8 + 1 then u1 else if j = k * 8 then u0 else f j) (q * 8 + j)) = (cs x)[j]? := by
  intro q y hq hy j hj
  by_cases hqk : q = k
  · subst hqk
    rw [hx] at hy
    injection hy with hy
    subst hy
    rw [hc]
    obtain rfl | rfl | rfl | rfl | rfl | rfl | rfl | rfl : j = 0 ∨ j = 1 ∨ j = 2 ∨ j = 3 ∨ j = 4 ∨ j = 5 ∨ j = 6 ∨ j = 7 := by omega
    all_goals simp
  · show some (if q * 8 + j = k * 8 + 7 then u7 else if q * 8 + j = k * 8 + 6 then u6 else if q * 8 + j = k * 8 + 5 then u5 else if q * 8 + j = k * 8 + 4 then u4 else if q * 8 + j = k * 8 + 3 then u3 else if q * 8 + j = k * 8 + 2 then u2 else if q * 8 + j = k * 8 + 1 then u1 else if q * 8 + j = k * 8 then u0 else f (q * 8 + j)) = _
    rw [if_neg (by omega), if_neg (by omega), if_neg (by omega), if_neg (by omega), if_neg (by omega), if_neg (by omega), if_neg (by omega), if_neg (by omega)]
    exact hf q y (by omega) hy j hj

theorem eqlIn_nd (d : Nat) (a b p q : Int) (W : World) : (Op.equalIn (d + 2) 41 (.agg #[.int .i64 a, .int .i64 b]) (.agg #[.int .i64 p, .int .i64 q])).run Try.prog W = .ok (decide (a = p) && decide (b = q)) W := by
  rw [run_equalIn_struct (P := Try.prog) W (d + 1) 41 _ _ (by kernel_rfl) (by kernel_rfl)]
  have hf : (Try.prog.fieldsOf 41).toList = [⟨"Bed", 2, 0, false, "", "", 0⟩, ⟨"At", 2, 1, false, "", "", 8⟩] := by kernel_rfl
  rw [hf]
  generalize hk : decide (a = p) = bk
  generalize hp : decide (b = q) = bp
  have hk' : (a == p) = bk := by rw [← hk]; rfl
  have hp' : (b == q) = bp := by rw [← hp]; rfl
  simp [go_sem, Op.eqFields, hk', hp', -beq_iff_eq]
  cases bk <;> cases bp <;> rfl
theorem neq_nd (a b p q : Int) (W : World) : (binOp .neq 41 (.agg #[.int .i64 a, .int .i64 b]) (.agg #[.int .i64 p, .int .i64 q])).run Try.prog W = .ok (.bool (!(decide (a = p) && decide (b = q)))) W := by
  rw [run_neq_struct, eqlIn_nd 9998]
  rfl
theorem eql_nd (a b p q : Int) (W : World) : (binOp .eql 41 (.agg #[.int .i64 a, .int .i64 b]) (.agg #[.int .i64 p, .int .i64 q])).run Try.prog W = .ok (.bool (decide (a = p) && decide (b = q))) W := by
  rw [run_eql_struct, eqlIn_nd 9998]
  rfl

theorem eqlIn_op (d : Nat) (x y : Opr) (W : World) : (Op.equalIn (d + 3) 43 x.v y.v).run Try.prog W = .ok (decide (x = y)) W := by
  rw [run_equalIn_struct (P := Try.prog) W (d + 2) 43 _ _ (by kernel_rfl) (by kernel_rfl)]
  have hf : (Try.prog.fieldsOf 43).toList = [⟨"Kind", 2, 0, false, "", "", 0⟩, ⟨"Dir", 2, 1, false, "", "", 8⟩, ⟨"From", 41, 2, false, "", "", 16⟩, ⟨"To", 41, 4, false, "", "", 32⟩, ⟨"Carrier", 2, 6, false, "", "", 48⟩, ⟨"Rack", 2, 7, false, "", "", 56⟩] := by kernel_rfl
  rw [hf]
  have e : decide (x = y) = (x.k == y.k && (x.d == y.d && ((decide (x.fb = y.fb) && decide (x.fa = y.fa)) && ((decide (x.tb = y.tb) && decide (x.ta = y.ta)) && (x.c == y.c && x.r == y.r))))) := by
    cases x; cases y
    rw [Bool.eq_iff_iff]
    simp
    intro _ _
    exact ⟨fun ⟨a, b, c, d, e, f⟩ => ⟨⟨a, b⟩, ⟨c, d⟩, e, f⟩, fun ⟨⟨a, b⟩, ⟨c, d⟩, e, f⟩ => ⟨a, b, c, d, e, f⟩⟩
  rw [e]
  have h1 := fun W => eqlIn_nd d x.fb x.fa y.fb y.fa W
  have h2 := fun W => eqlIn_nd d x.tb x.ta y.tb y.ta W
  generalize (decide (x.fb = y.fb) && decide (x.fa = y.fa)) = bb at *
  generalize (decide (x.tb = y.tb) && decide (x.ta = y.ta)) = bd at *
  generalize hk : (x.k == y.k) = bk
  generalize hp : (x.d == y.d) = bp
  generalize hc : (x.c == y.c) = bc
  generalize hd : (x.r == y.r) = be
  simp [go_sem, Op.eqFields, hk, hp, hc, hd, h1, h2, -beq_iff_eq]
  cases bk <;> cases bp <;> cases bc <;> cases bb <;> cases bd <;> cases be <;> rfl
theorem neq_op (x y : Opr) (W : World) : (binOp .neq 43 x.v y.v).run Try.prog W = .ok (.bool (!decide (x = y))) W := by
  rw [run_neq_struct, eqlIn_op 9997]
  rfl
theorem eql_op (x y : Opr) (W : World) : (binOp .eql 43 x.v y.v).run Try.prog W = .ok (.bool (decide (x = y))) W := by
  rw [run_eql_struct, eqlIn_op 9997]
  rfl

theorem toNeedle_any (a b : Int) (w : World) : Calls Try.prog 34 #[.agg #[.int .i64 a, .int .i64 b]] w fun x w' => x = .returned (.agg #[.int .i64 a, .int .i64 b]) ∧ Below w.heap.size w w' := by
  go_enter Try.func34, Try.ntmps34
  go_wp2
  refine bodyPost_ret (v := .agg #[.int .i64 a, .int .i64 b]) (by simp [results, Try.results34, go_sem]) rfl ⟨rfl, ?_⟩
  exact (((Below.refl _ _).alloc (Nat.le_refl _) _).alloc (by simp) _).alloc (by simp; omega) _

theorem eqNeedle_any (a b p q : Int) (w : World) : Calls Try.prog 93 #[.agg #[.int .i64 a, .int .i64 b], .agg #[.int .i64 p, .int .i64 q]] w fun x w' => x = .returned (.bool (decide (a = p) && decide (b = q))) ∧ Below w.heap.size w w' := by
  by_cases h1 : a = p
  · subst h1
    by_cases h2 : b = q
    · subst h2
      go_enter Try.func93, Try.ntmps93
      go_wp2
      go_ret
      exact ⟨ret_bool (by simp), ((Below.refl _ _).alloc (Nat.le_refl _) _).alloc (by simp) _⟩
    · have h3 : (b != q) = true := by simpa using h2
      have h4 : decide (b = q) = false := by simpa using h2
      rw [h4]
      clear h2
      go_enter Try.func93, Try.ntmps93
      go_wp2
      go_ret
      exact ⟨ret_bool (by simp), ((Below.refl _ _).alloc (Nat.le_refl _) _).alloc (by simp) _⟩
  · have h3 : (a != p) = true := by simpa using h1
    have h4 : decide (a = p) = false := by simpa using h1
    rw [h4]
    clear h1
    go_enter Try.func93, Try.ntmps93
    go_wp2
    go_ret
    exact ⟨ret_bool (by simp), ((Below.refl _ _).alloc (Nat.le_refl _) _).alloc (by simp) _⟩

end Go.Proofs.Ythhpjgdeehcgjaa

/-
  Rows of operations: what the laws' helpers do.
-/
namespace Go.Proofs.Ythhpjgdeehcgjaa
set_option linter.unusedVariables false
set_option linter.unusedSimpArgs false
open Go.RowKit

theorem opr_ext {x y : Opr} : decide (x = y) = (decide (x.k = y.k) && (decide (x.d = y.d) && ((decide (x.fb = y.fb) && decide (x.fa = y.fa)) && ((decide (x.tb = y.tb) && decide (x.ta = y.ta)) && (decide (x.c = y.c) && decide (x.r = y.r)))))) := by
  cases x; cases y
  rw [Bool.eq_iff_iff]
  simp
  intro _ _
  exact ⟨fun ⟨a, b, c, d, e, f⟩ => ⟨⟨a, b⟩, ⟨c, d⟩, e, f⟩, fun ⟨⟨a, b⟩, ⟨c, d⟩, e, f⟩ => ⟨a, b, c, d, e, f⟩⟩
set_option maxHeartbeats 2000000 in
theorem eqOp_any (x y : Opr) (w : World) : Calls Try.prog 52 #[x.v, y.v] w fun e w' => e = .returned (.bool (decide (x = y))) ∧ Below w.heap.size w w' := by
  rw [opr_ext]
  obtain ⟨k, d, fb, fa, tb, ta, c, r⟩ := x
  obtain ⟨k', d', fb', fa', tb', ta', c', r'⟩ := y
  simp only
  have HN := Lib.hid (fun w' => eqNeedle_any fb fa fb' fa' w')
  have HM := Lib.hid (fun w' => eqNeedle_any tb ta tb' ta' w')
  generalize (decide (fb = fb') && decide (fa = fa')) = B1 at *
  generalize (decide (tb = tb') && decide (ta = ta')) = B2 at *
  by_cases h1 : k = k'
  case neg =>
    have h2 : (k != k') = true := by simpa using h1
    have h3 : decide (k = k') = false := by simpa using h1
    rw [h3]
    clear h1 h3
    go_enter Try.func52, Try.ntmps52
    go_wp2
    go_ret
    exact ⟨ret_bool (by simp), ((Below.refl _ _).alloc (Nat.le_refl _) _).alloc (by simp) _⟩
  subst h1
  by_cases h1 : d = d'
  case neg =>
    have h2 : (d != d') = true := by simpa using h1
    have h3 : decide (d = d') = false := by simpa using h1
    rw [h3]
    clear h1 h3
    go_enter Try.func52, Try.ntmps52
    go_wp2
    go_ret
    exact ⟨ret_bool (by simp), ((Below.refl _ _).alloc (Nat.le_refl _) _).alloc (by simp) _⟩
  subst h1
  simp only [decide_true, Bool.true_and]
  have HB0 := Lib.hid (show Below w.heap.size w ((w.alloc (.cells #[.int .i64 k, .int .i64 d, .int .i64 fb, .int .i64 fa, .int .i64 tb, .int .i64 ta, .int .i64 c, .int .i64 r] 43)).alloc (.cells #[.int .i64 k, .int .i64 d, .int .i64 fb', .int .i64 fa', .int .i64 tb', .int .i64 ta', .int .i64 c', .int .i64 r'] 43)) from ((Below.refl _ _).alloc (Nat.le_refl _) _).alloc (by simp) _)
  have hca : CellsAt ((w.alloc (.cells #[.int .i64 k, .int .i64 d, .int .i64 fb, .int .i64 fa, .int .i64 tb, .int .i64 ta, .int .i64 c, .int .i64 r] 43)).alloc (.cells #[.int .i64 k, .int .i64 d, .int .i64 fb', .int .i64 fa', .int .i64 tb', .int .i64 ta', .int .i64 c', .int .i64 r'] 43)) w.heap.size 0 [.int .i64 k, .int .i64 d, .int .i64 fb, .int .i64 fa, .int .i64 tb, .int .i64 ta, .int .i64 c, .int .i64 r] := by
    intro j u hu; rcases j with _ | _ | _ | _ | _ | _ | _ | _ | j <;> simp at hu <;> subst hu <;> simp [go_sem]
  have hcb : CellsAt ((w.alloc (.cells #[.int .i64 k, .int .i64 d, .int .i64 fb, .int .i64 fa, .int .i64 tb, .int .i64 ta, .int .i64 c, .int .i64 r] 43)).alloc (.cells #[.int .i64 k, .int .i64 d, .int .i64 fb', .int .i64 fa', .int .i64 tb', .int .i64 ta', .int .i64 c', .int .i64 r'] 43)) (w.heap.size + 1) 0 [.int .i64 k, .int .i64 d, .int .i64 fb', .int .i64 fa', .int .i64 tb', .int .i64 ta', .int .i64 c', .int .i64 r'] := by
    intro j u hu; rcases j with _ | _ | _ | _ | _ | _ | _ | _ | j <;> simp at hu <;> subst hu <;> simp [go_sem]
  have HCA := Lib.hid hca
  have HCB := Lib.hid hcb
  clear hca hcb
  by_cases hc : c = c' ∧ r = r'
  case neg =>
    have hcr : (decide (c = c') && decide (r = r')) = false := by rw [Bool.eq_false_iff]; simpa using hc
    rw [hcr]
    cases B1
    · go_enter Try.func52, Try.ntmps52
      go_wp2_with fail
      refine (HN.out _).mono ?_
      rintro e w1 ⟨rfl, hb⟩
      have HB := Lib.hid (HB0.out.trans (hb.mono HB0.out.size))
      clear hb
      go_wp2
      go_ret
      exact ⟨rfl, HB.out⟩
    cases B2
    · go_enter Try.func52, Try.ntmps52
      -- behind both comparisons of needles
      go_wp2_with fail
      refine (HN.out _).mono ?_
      rintro e w1 ⟨rfl, hb⟩
      have HB1 := Lib.hid (HB0.out.trans (hb.mono HB0.out.size))
      obtain ⟨y0, y1, y2, y3, y4, y5, y6, y7⟩ := (HCA.out.below hb (by simp; try omega)).eight
      obtain ⟨x0, x1, x2, x3, x4, x5, x6, x7⟩ := (HCB.out.below hb (by simp; try omega)).eight
      have HCA1 := Lib.hid (HCA.out.below hb (by simp; try omega))
      have HCB1 := Lib.hid (HCB.out.below hb (by simp; try omega))
      have HZ1 := Lib.hid (show w.heap.size + 2 ≤ w1.heap.size by have := hb.size; simp at this; omega)
      clear hb
      go_wp2_with fail
      refine (HM.out _).mono ?_
      rintro e w2 ⟨rfl, hb⟩
      have HB := Lib.hid (HB1.out.trans (hb.mono HB1.out.size))
      clear y0 y1 y2 y3 y4 y5 y6 y7 x0 x1 x2 x3 x4 x5 x6 x7
      obtain ⟨y0, y1, y2, y3, y4, y5, y6, y7⟩ := (HCA1.out.below hb (by have := HZ1.out; omega)).eight
      obtain ⟨x0, x1, x2, x3, x4, x5, x6, x7⟩ := (HCB1.out.below hb (by have := HZ1.out; omega)).eight
      clear hb
      go_wp2
      go_ret
      exact ⟨rfl, HB.out⟩
    by_cases h1 : c = c'
    · have h2 : ¬ r = r' := fun h => hc ⟨h1, h⟩
      have h3 : (r != r') = true := by simpa using h2
      subst h1
      clear hc hcr h2
      go_enter Try.func52, Try.ntmps52
      -- behind both comparisons of needles
      go_wp2_with fail
      refine (HN.out _).mono ?_
      rintro e w1 ⟨rfl, hb⟩
      have HB1 := Lib.hid (HB0.out.trans (hb.mono HB0.out.size))
      obtain ⟨y0, y1, y2, y3, y4, y5, y6, y7⟩ := (HCA.out.below hb (by simp; try omega)).eight
      obtain ⟨x0, x1, x2, x3, x4, x5, x6, x7⟩ := (HCB.out.below hb (by simp; try omega)).eight
      have HCA1 := Lib.hid (HCA.out.below hb (by simp; try omega))
      have HCB1 := Lib.hid (HCB.out.below hb (by simp; try omega))
      have HZ1 := Lib.hid (show w.heap.size + 2 ≤ w1.heap.size by have := hb.size; simp at this; omega)
      clear hb
      go_wp2_with fail
      refine (HM.out _).mono ?_
      rintro e w2 ⟨rfl, hb⟩
      have HB := Lib.hid (HB1.out.trans (hb.mono HB1.out.size))
      clear y0 y1 y2 y3 y4 y5 y6 y7 x0 x1 x2 x3 x4 x5 x6 x7
      obtain ⟨y0, y1, y2, y3, y4, y5, y6, y7⟩ := (HCA1.out.below hb (by have := HZ1.out; omega)).eight
      obtain ⟨x0, x1, x2, x3, x4, x5, x6, x7⟩ := (HCB1.out.below hb (by have := HZ1.out; omega)).eight
      clear hb
      go_wp2
      go_ret
      exact ⟨rfl, HB.out⟩
    · have h3 : (c != c') = true := by simpa using h1
      clear hc hcr h1
      go_enter Try.func52, Try.ntmps52
      -- behind both comparisons of needles
      go_wp2_with fail
      refine (HN.out _).mono ?_
      rintro e w1 ⟨rfl, hb⟩
      have HB1 := Lib.hid (HB0.out.trans (hb.mono HB0.out.size))
      obtain ⟨y0, y1, y2, y3, y4, y5, y6, y7⟩ := (HCA.out.below hb (by simp; try omega)).eight
      obtain ⟨x0, x1, x2, x3, x4, x5, x6, x7⟩ := (HCB.out.below hb (by simp; try omega)).eight
      have HCA1 := Lib.hid (HCA.out.below hb (by simp; try omega))
      have HCB1 := Lib.hid (HCB.out.below hb (by simp; try omega))
      have HZ1 := Lib.hid (show w.heap.size + 2 ≤ w1.heap.size by have := hb.size; simp at this; omega)
      clear hb
      go_wp2_with fail
      refine (HM.out _).mono ?_
      rintro e w2 ⟨rfl, hb⟩
      have HB := Lib.hid (HB1.out.trans (hb.mono HB1.out.size))
      clear y0 y1 y2 y3 y4 y5 y6 y7 x0 x1 x2 x3 x4 x5 x6 x7
      obtain ⟨y0, y1, y2, y3, y4, y5, y6, y7⟩ := (HCA1.out.below hb (by have := HZ1.out; omega)).eight
      obtain ⟨x0, x1, x2, x3, x4, x5, x6, x7⟩ := (HCB1.out.below hb (by have := HZ1.out; omega)).eight
      clear hb
      go_wp2
      go_ret
      exact ⟨rfl, HB.out⟩
  obtain ⟨rfl, rfl⟩ := hc
  simp only [decide_true, Bool.and_true]
  cases B1
  · go_enter Try.func52, Try.ntmps52
    go_wp2_with fail
    refine (HN.out _).mono ?_
    rintro e w1 ⟨rfl, hb⟩
    have HB := Lib.hid (HB0.out.trans (hb.mono HB0.out.size))
    clear hb
    go_wp2
    go_ret
    exact ⟨rfl, HB.out⟩
  cases B2
  all_goals
    go_enter Try.func52, Try.ntmps52
    -- behind both comparisons of needles
    go_wp2_with fail
    refine (HN.out _).mono ?_
    rintro e w1 ⟨rfl, hb⟩
    have HB1 := Lib.hid (HB0.out.trans (hb.mono HB0.out.size))
    obtain ⟨y0, y1, y2, y3, y4, y5, y6, y7⟩ := (HCA.out.below hb (by simp; try omega)).eight
    obtain ⟨x0, x1, x2, x3, x4, x5, x6, x7⟩ := (HCB.out.below hb (by simp; try omega)).eight
    have HCA1 := Lib.hid (HCA.out.below hb (by simp; try omega))
    have HCB1 := Lib.hid (HCB.out.below hb (by simp; try omega))
    have HZ1 := Lib.hid (show w.heap.size + 2 ≤ w1.heap.size by have := hb.size; simp at this; omega)
    clear hb
    go_wp2_with fail
    refine (HM.out _).mono ?_
    rintro e w2 ⟨rfl, hb⟩
    have HB := Lib.hid (HB1.out.trans (hb.mono HB1.out.size))
    clear y0 y1 y2 y3 y4 y5 y6 y7 x0 x1 x2 x3 x4 x5 x6 x7
    obtain ⟨y0, y1, y2, y3, y4, y5, y6, y7⟩ := (HCA1.out.below hb (by have := HZ1.out; omega)).eight
    obtain ⟨x0, x1, x2, x3, x4, x5, x6, x7⟩ := (HCB1.out.below hb (by have := HZ1.out; omega)).eight
    clear hb
    go_wp2
    go_ret
    exact ⟨rfl, HB.out⟩

set_option maxHeartbeats 2000000 in
theorem toOp_any (x : Opr) (w : World) : Calls Try.prog 8 #[x.v] w fun e w' => e = .returned x.v ∧ Below w.heap.size w w' := by
  obtain ⟨k, d, fb, fa, tb, ta, c, r⟩ := x
  have HQ1 := Lib.hid (fun w' => toNeedle_any fb fa w')
  have HQ2 := Lib.hid (fun w' => toNeedle_any tb ta w')
  go_enter Try.func8, Try.ntmps8
  go_wp2_with fail
  refine (HQ1.out _).mono ?_
  rintro e w1 ⟨rfl, hb⟩
  have hz1 : w.heap.size + 3 ≤ w1.heap.size := by have := hb.size; simp at this; omega
  have hx : CellsAt w1 w.heap.size 0 [.int .i64 k, .int .i64 d, .int .i64 fb, .int .i64 fa, .int .i64 tb, .int .i64 ta, .int .i64 c, .int .i64 r] := by
    refine CellsAt.below ?_ hb (by simp; try omega)
    intro j u hu; rcases j with _ | _ | _ | _ | _ | _ | _ | _ | j <;> simp at hu <;> subst hu <;> simp [go_sem]
  have hr : CellsAt w1 (w.heap.size + 1) 0 [.int .i64 0, .int .i64 0, .int .i64 0, .int .i64 0, .int .i64 0, .int .i64 0, .int .i64 0, .int .i64 0] := by
    refine CellsAt.below ?_ hb (by simp; try omega)
    intro j u hu; rcases j with _ | _ | _ | _ | _ | _ | _ | _ | j <;> simp at hu <;> subst hu <;> simp [go_sem]
  have hv : CellsAt w1 (w.heap.size + 1 + 1) 0 [.int .i64 k, .int .i64 d, .int .i64 0, .int .i64 0, .int .i64 0, .int .i64 0, .int .i64 0, .int .i64 0] := by
    refine CellsAt.below ?_ hb (by simp; try omega)
    intro j u hu; rcases j with _ | _ | _ | _ | _ | _ | _ | _ | j <;> simp at hu <;> subst hu <;> simp [go_sem]
  have hfr : ∀ b o, w.heap.size ≤ b → b < w.heap.size + 3 → w1.frozen? ⟨b, o, none⟩ = false := by
    intro b o h1 h2
    refine ((bcell hb).2 b o (by simp; omega)).trans ?_
    obtain rfl | rfl | rfl : b = w.heap.size ∨ b = w.heap.size + 1 ∨ b = w.heap.size + 1 + 1 := by omega
    all_goals simp [go_sem]
  have HB1 := Lib.hid (show Below w.heap.size w w1 from by
    refine Below.trans ?_ (hb.mono (by simp; try omega))
    repeat (first | exact Below.refl _ _ | refine Below.alloc ?_ (by simp; try omega) _ | refine Below.setCell ?_ (by simp; try omega) _))
  have HX := Lib.hid hx
  have HR := Lib.hid hr
  have HV := Lib.hid hv
  have HF := Lib.hid hfr
  obtain ⟨-, -, -, -, x4, x5, -, -⟩ := hx.eight
  obtain ⟨-, -, v2, v3, -, -, -, -⟩ := hv.eight
  have f22 := hfr (w.heap.size + 1 + 1) 2 (by omega) (by omega)
  have f23 := hfr (w.heap.size + 1 + 1) 3 (by omega) (by omega)
  clear hb hx hr hv hfr
  go_wp2_with fail
  refine (HQ2.out _).mono ?_
  rintro e w2 ⟨rfl, hb⟩
  have hz2 : w1.heap.size ≤ w2.heap.size := by have := hb.size; simpa using this
  have hv2 := (((HV.out.set 2 (.int .i64 fb)).set 3 (.int .i64 fa))).below hb (by simp; try omega)
  have hx2 := ((HX.out.far (p := ⟨w.heap.size + 1 + 1, 0 + 2, none⟩) (by simp; try omega) (.int .i64 fb)).far (p := ⟨w.heap.size + 1 + 1, 0 + 3, none⟩) (by simp; try omega) (.int .i64 fa)).below hb (by simp; try omega)
  have hr2 := ((HR.out.far (p := ⟨w.heap.size + 1 + 1, 0 + 2, none⟩) (by simp; try omega) (.int .i64 fb)).far (p := ⟨w.heap.size + 1 + 1, 0 + 3, none⟩) (by simp; try omega) (.int .i64 fa)).below hb (by simp; try omega)
  have g2 : ∀ o, w2.frozen? ⟨w.heap.size + 1 + 1, o, none⟩ = false := fun o => ((bcell hb).2 _ o (by simp; try omega)).trans (by simp [go_sem]; exact HF.out _ o (by omega) (by omega))
  have g1 : ∀ o, w2.frozen? ⟨w.heap.size + 1, o, none⟩ = false := fun o => ((bcell hb).2 _ o (by simp; try omega)).trans (by simp [go_sem]; exact HF.out _ o (by omega) (by omega))
  have HB2 := Lib.hid (show Below w.heap.size w w2 from (HB1.out.trans (((Below.refl w.heap.size w1).setCell (by simp; try omega) _).setCell (by simp; try omega) _)).trans (hb.mono (by simp; try omega)))
  clear x4 x5 v2 v3 f22 f23 hb
  obtain ⟨-, -, -, -, -, -, x6, x7⟩ := hx2.eight
  obtain ⟨v0, v1, v2, v3, v4, v5, v6, v7⟩ := hv2.eight
  obtain ⟨r0, r1, r2, r3, r4, r5, r6, r7⟩ := hr2.eight
  have HRC := Lib.hid hr2
  clear hx2 hv2 hr2
  go_wp2
  have HBF : Hid (Below w.heap.size w ((((((((((((w2.setCell ⟨w.heap.size + 1 + 1, 4, none⟩ (.int .i64 tb)).setCell ⟨w.heap.size + 1 + 1, 5, none⟩ (.int .i64 ta)).setCell ⟨w.heap.size + 1 + 1, 6, none⟩ (.int .i64 c)).setCell ⟨w.heap.size + 1 + 1, 7, none⟩ (.int .i64 r)).setCell ⟨w.heap.size + 1, 0, none⟩ (.int .i64 k)).setCell ⟨w.heap.size + 1, 1, none⟩ (.int .i64 d)).setCell ⟨w.heap.size + 1, 2, none⟩ (.int .i64 fb)).setCell ⟨w.heap.size + 1, 3, none⟩ (.int .i64 fa)).setCell ⟨w.heap.size + 1, 4, none⟩ (.int .i64 tb)).setCell ⟨w.heap.size + 1, 5, none⟩ (.int .i64 ta)).setCell ⟨w.heap.size + 1, 6, none⟩ (.int .i64 c)).setCell ⟨w.heap.size + 1, 7, none⟩ (.int .i64 r))) :=
    (((((((((((HB2.out.setCell (by simp; try omega) _).setCell (by simp; try omega) _).setCell (by simp; try omega) _).setCell (by simp; try omega) _).setCell (by simp; try omega) _).setCell (by simp; try omega) _).setCell (by simp; try omega) _).setCell (by simp; try omega) _).setCell (by simp; try omega) _).setCell (by simp; try omega) _).setCell (by simp; try omega) _).setCell (by simp; try omega) _
  have HCF : CellsAt ((((((((((((w2.setCell ⟨w.heap.size + 1 + 1, 4, none⟩ (.int .i64 tb)).setCell ⟨w.heap.size + 1 + 1, 5, none⟩ (.int .i64 ta)).setCell ⟨w.heap.size + 1 + 1, 6, none⟩ (.int .i64 c)).setCell ⟨w.heap.size + 1 + 1, 7, none⟩ (.int .i64 r)).setCell ⟨w.heap.size + 1, 0, none⟩ (.int .i64 k)).setCell ⟨w.heap.size + 1, 1, none⟩ (.int .i64 d)).setCell ⟨w.heap.size + 1, 2, none⟩ (.int .i64 fb)).setCell ⟨w.heap.size + 1, 3, none⟩ (.int .i64 fa)).setCell ⟨w.heap.size + 1, 4, none⟩ (.int .i64 tb)).setCell ⟨w.heap.size + 1, 5, none⟩ (.int .i64 ta)).setCell ⟨w.heap.size + 1, 6, none⟩ (.int .i64 c)).setCell ⟨w.heap.size + 1, 7, none⟩ (.int .i64 r)) (w.heap.size + 1) 0 [.int .i64 k, .int .i64 d, .int .i64 fb, .int .i64 fa, .int .i64 tb, .int .i64 ta, .int .i64 c, .int .i64 r] := by
    have h := (((((((((((HRC.out.far (p := ⟨w.heap.size + 1 + 1, 4, none⟩) (by simp) (.int .i64 tb)).far (p := ⟨w.heap.size + 1 + 1, 5, none⟩) (by simp) (.int .i64 ta)).far (p := ⟨w.heap.size + 1 + 1, 6, none⟩) (by simp) (.int .i64 c)).far (p := ⟨w.heap.size + 1 + 1, 7, none⟩) (by simp) (.int .i64 r)).set 0 (.int .i64 k)).set 1 (.int .i64 d)).set 2 (.int .i64 fb)).set 3 (.int .i64 fa)).set 4 (.int .i64 tb)).set 5 (.int .i64 ta)).set 6 (.int .i64 c)).set 7 (.int .i64 r)
    simp only [Nat.zero_add] at h
    exact h
  generalize World.setCell _ ⟨w.heap.size + 1, 7, none⟩ (.int .i64 r) = wz at HBF HCF ⊢
  obtain ⟨z0, z1, z2, z3, z4, z5, z6, z7⟩ := HCF.eight
  refine bodyPost_ret (v := (⟨k, d, fb, fa, tb, ta, c, r⟩ : Opr).v) ?_ rfl ⟨rfl, HBF.out⟩
  simp only [Nat.zero_add] at z1 z2 z3 z4 z5 z6 z7
  clear v0 v1 v2 v3 v4 v5 v6 v7 r0 r1 r2 r3 r4 r5 r6 r7 x6 x7
  simp [results, Try.results8, go_sem, z0, z1, z2, z3, z4, z5, z6, z7]

set_option maxHeartbeats 1000000 in
theorem eqOpS_any (v u : Value) (l m : List Opr) (w : World) (B : Nat) (hl : RdO w B v l) (hm : RdO w B u m) (hB : B ≤ w.heap.size) :
    Calls Try.prog 19 #[v, u] w fun x w' => x = .returned (.bool (decide (l = m))) ∧ Below w.heap.size w w' := by
  obtain ⟨A, n, c, rfl, hln, hl, gl⟩ := hl
  obtain ⟨A', n', c', rfl, hmn, hm, gm⟩ := hm
  by_cases hlen : n = n'
  · subst hlen
    go_enter Try.func19, Try.ntmps19
    go_wp2
    go_loopw [5] (fun i wr => ∃ k : Nat, k ≤ n ∧ i = .int .i64 k ∧ Hid (decide (l = m) = decide (l.drop k = m.drop k)) ∧ Below w.heap.size w wr) (fun i _ => n - (intOf i).toNat)
    case atStart => exact ⟨0, Nat.zero_le _, rfl, rfl, Below.refl _ _⟩
    case round =>
      rename_i wr
      obtain ⟨k, hk, rfl, hd, hb⟩ := hrel
      by_cases hlt : k < n
      · obtain ⟨b, off, x, rfl, hbb, hlk, hc⟩ := gl k hlt
        obtain ⟨b', off', y, rfl, hbb', hmk, hc'⟩ := gm k hlt
        obtain ⟨e0, e1, e2, e3, e4, e5, e6, e7⟩ := (hc.below hb (Nat.lt_of_lt_of_le hbb hB)).grow8
        obtain ⟨f0, f1, f2, f3, f4, f5, f6, f7⟩ := (hc'.below hb (Nat.lt_of_lt_of_le hbb' hB)).grow8
        have HB := Lib.hid hb
        have Hl := Lib.hid hlk
        have Hm := Lib.hid hmk
        clear hc hc' hlk hmk hb gl gm
        go_wp2
        refine wp_region_grow (by kernel_rfl) (by kernel_rfl) ?_
        repeat (go_big_quiet_step ((go_at_call 52; exact calls_grow (eqOp_any _ _ _))))
        refine wpQuiet_nil ?_
        intro w1 hb1
        have HB1 := HB.out.trans (hb1.mono HB.out.size)
        go_wp2
        · go_ret
          exact ⟨ret_bool (by rw [hd.out, drop_of_get Hl.out, drop_of_get Hm.out]; simp_all), HB1⟩
        · exact ⟨⟨k + 1, by omega, by go_num, by unfold Hid; rw [hd.out, drop_of_get Hl.out, drop_of_get Hm.out]; simp_all, HB1⟩, by simp [intOf]; omega⟩
      · go_wp2
        go_ret
        exact ⟨ret_bool (by rw [hd.out, List.drop_of_length_le (by have := hl.out; omega), List.drop_of_length_le (by have := hm.out; omega)]; simp), hb⟩
  · have hd1 : ((n : Int) != (n' : Int)) = true := by simp; omega
    go_enter Try.func19, Try.ntmps19
    go_wp2
    go_ret
    exact ⟨ret_bool (by symm; simp; rintro rfl; exact hlen (hl.out.symm.trans hm.out)), Below.refl _ _⟩

set_option maxHeartbeats 1000000 in
theorem toOpS_any (v : Value) (l : List Opr) (w : World) (hl : RdO w w.heap.size v l) (hlen : l.length ≤ 1048576) :
    Calls Try.prog 17 #[v] w (GivesOw w 43 8 l.length (vO l)) := by
  obtain ⟨A, n, c, rfl, hln, hl, gl⟩ := hl
  have hn : n ≤ 1048576 := by have := hl.out; omega
  clear hlen
  have hmk := fun W => run_make_rowsN (P := Try.prog) 53 43 _ 8 64 Try.underlying53 info_op .i64 .i64 n (by omega) (by omega) W
  go_enter Try.func17, Try.ntmps17
  go_wp2
  clear hmk
  go_loopw [4] (fun i wr => ∃ (k : Nat) (f : Nat → Value), k ≤ n ∧ i = .int .i64 k ∧ wr.rowIs w.heap.size 43 (n * 8) f ∧ Hid (∀ q x, q < k → l[q]? = some x → ∀ j, j < 8 → some (f (q * 8 + j)) = x.cells[j]?) ∧ Below w.heap.size w wr) (fun i _ => n - (intOf i).toNat)
  case atStart => exact ⟨0, _, Nat.zero_le _, rfl, rowIs_madeN _ _ _ _, fun j x hj => absurd hj (by omega), (Below.refl _ _).alloc (Nat.le_refl _) _⟩
  case round =>
    rename_i wr
    obtain ⟨k, f, hk, rfl, hrow, hf, hb⟩ := hrel
    by_cases hlt : k < n
    · obtain ⟨b, off, x, rfl, hbb, hlk, hc⟩ := gl k hlt
      obtain ⟨c0, c1, c2, c3, c4, c5, c6, c7⟩ := (hc.below hb hbb).eight
      have HB := Lib.hid hb
      have HR := Lib.hid hrow
      have Hl := Lib.hid hlk
      clear hc hb hrow hlk gl
      go_wp2_with (go_at_call 8; refine (toOp_any x _).mono ?_; rintro e w1 ⟨rfl, hb1⟩; have hrow := HR.out.of_block (hb1.block _ HR.out.lt); have d0 := hrow.cell (i := k * 8) (by omega); have d1 := hrow.cell (i := k * 8 + 1) (by omega); have d2 := hrow.cell (i := k * 8 + 2) (by omega); have d3 := hrow.cell (i := k * 8 + 3) (by omega); have d4 := hrow.cell (i := k * 8 + 4) (by omega); have d5 := hrow.cell (i := k * 8 + 5) (by omega); have d6 := hrow.cell (i := k * 8 + 6) (by omega); have d7 := hrow.cell (i := k * 8 + 7) (by omega); have g0 := fun i => hrow.frozen i)
      exact ⟨⟨k + 1, _, by omega, by go_num, rowIs_set8 hrow _ _ _ _ _ _ _ _ _, fill8 Hl.out rfl hf.out, below_set8 (HB.out.trans (hb1.mono HB.out.size)) (Nat.le_refl _) _ _ _ _ _ _ _ _⟩, by simp [intOf]; omega⟩
    · have HB := Lib.hid hb
      have HR := Lib.hid hrow
      clear hb hrow
      go_wp2
      go_ret
      obtain rfl : k = n := by omega
      exact ⟨.slice (some ⟨w.heap.size, 0, none⟩) k k, rfl, OwC.of_row Opr.len (by omega) HR.out hl.out (Nat.le_refl _) hln (fun q x hq hx => hf.out q x hq hx), HB.out⟩

set_option maxHeartbeats 4000000 in
set_option maxRecDepth 100000 in
theorem markO_any (v : Value) (n : Nat) (xs : List Value) (K : Int) (w : World) (lo hi : Nat) (ho : OwC w lo hi 43 8 v n xs) (hK : 0 ≤ K) (hn : K + (n : Int) * 8 ≤ 1000000000000) :
    Calls Try.prog 20 #[v, .int .i64 K] w fun e w' => e = .returned (.int .i64 (K + (n : Int) * 8)) ∧ OwC w' lo hi 43 8 v n (vM K (n * 8)) ∧ Only lo hi w w' := by
  rcases ho.2 with ⟨rfl, A, c, rfl⟩ | ⟨g, cap, cur, rfl, hlo, hhi, hg, hnc, hcap, hsz, hx⟩
  · go_enter Try.func20, Try.ntmps20
    go_wp2
    go_loopw [1, 5] (fun t i wr => t = .int .i64 K ∧ i = .int .i64 0 ∧ w = wr) (fun _ i _ => 0 - (intOf i).toNat)
    case atStart => exact ⟨rfl, rfl, rfl⟩
    case round =>
      rename_i wr
      obtain ⟨rfl, rfl, rfl⟩ := hrel
      go_wp2
      go_ret
      exact ⟨ret_int (by simp), ⟨by simp [vM], .inl ⟨rfl, A, c, rfl⟩⟩, Only.refl _ _ _⟩
  · have hrow0 : w.rowIs g 43 (cap * 8) (fun i => cur.getD i undef) := ⟨cur, hg, hsz, fun i hi => row_getD (by omega)⟩
    have HR0 := Lib.hid hrow0
    have Hnc := Lib.hid hnc
    clear hx hg hrow0 ho hsz hnc
    go_enter Try.func20, Try.ntmps20
    go_wp2
    go_loopw [1, 5] (fun t i wr => ∃ (k : Nat) (f : Nat → Value), k ≤ n ∧ i = .int .i64 k ∧ t = .int .i64 (K + (k : Int) * 8) ∧ wr.rowIs g 43 (cap * 8) f ∧ Hid (∀ j, j < k * 8 → f j = .int .i64 (K + j)) ∧ Only lo hi w wr) (fun _ i _ => n - (intOf i).toNat)
    case atStart => exact ⟨0, _, Nat.zero_le _, rfl, by simp, HR0.out, fun j hj => absurd hj (by omega), Only.refl _ _ _⟩
    case round =>
      rename_i wr
      obtain ⟨k, f, hk, rfl, rfl, hrow, hf, hO⟩ := hrel
      by_cases hlt : k < n
      · have hcc := Hnc.out
        have d0 := hrow.cell (i := k * 8) (by omega)
        have d1 := hrow.cell (i := k * 8 + 1) (by omega)
        have d2 := hrow.cell (i := k * 8 + 2) (by omega)
        have d3 := hrow.cell (i := k * 8 + 3) (by omega)
        have d4 := hrow.cell (i := k * 8 + 4) (by omega)
        have d5 := hrow.cell (i := k * 8 + 5) (by omega)
        have d6 := hrow.cell (i := k * 8 + 6) (by omega)
        have d7 := hrow.cell (i := k * 8 + 7) (by omega)
        have g0 := fun i => hrow.frozen i
        have HR := Lib.hid hrow
        have HO := Lib.hid hO
        clear hrow hO hcc
        go_wp2
        exact ⟨⟨k + 1, _, by omega, by go_num, by first | go_num | (congr 1; push_cast; omega), ((((((((HR.out.set _ _).set _ _).set _ _).set _ _).set _ _).set _ _).set _ _).set _ _), fun j hj => mark_fill8 hf.out j hj, ((((((((HO.out.setCell hlo hhi _).setCell hlo hhi _).setCell hlo hhi _).setCell hlo hhi _).setCell hlo hhi _).setCell hlo hhi _).setCell hlo hhi _).setCell hlo hhi _)⟩, by simp [intOf]; omega⟩
      · have HR := Lib.hid hrow
        have HO := Lib.hid hO
        clear hrow hO
        obtain rfl : k = n := by omega
        go_wp2
        go_ret
        refine ⟨rfl, ⟨by simp [vM], .inr ?_⟩, HO.out⟩
        obtain ⟨cur', h1, h2, h3⟩ := HR.out
        have hcc : k * 8 ≤ cap * 8 := Nat.mul_le_mul_right _ Hnc.out
        exact ⟨g, cap, cur', rfl, hlo, hhi, h1, Hnc.out, hcap, h2, take_vM hcc h2 h3 hf.out⟩


end Go.Proofs.Ythhpjgdeehcgjaa

/-
  Which operations are valid, of the program.
-/
namespace Go.Proofs.Ythhpjgdeehcgjaa
set_option linter.unusedVariables false
set_option linter.unusedSimpArgs false
open Go.RowKit

def ndB (b a : Int) : Bool := bedM b && inB 0 a 23
def nowE (P : Program) : Prop := True
theorem validNeedle_any (b a : Int) (w : World) : Calls Try.prog 75 #[.agg #[.int .i64 b, .int .i64 a]] w fun e w' => e = .returned (.bool (ndB b a)) ∧ Below w.heap.size w w' := by
  unfold ndB
  have H1 := Lib.hid (fun w' => isBed_s b w')
  generalize bedM b = B1 at *
  cases B1
  all_goals
    go_enter Try.func75, Try.ntmps75
    go_wp2_with fail
    refine (H1.out _).mono ?_
    rintro e w1 ⟨rfl, rfl⟩
  · go_wp2
    go_ret
    exact ⟨rfl, (Below.refl _ _).alloc (Nat.le_refl _) _⟩
  · go_wp2_with fail
    refine (within_s _ _ _ _).mono ?_
    rintro e w1 ⟨rfl, rfl⟩
    go_wp2
    go_ret
    exact ⟨rfl, (Below.refl _ _).alloc (Nat.le_refl _) _⟩
theorem isPair_any (fb fa tb ta : Int) (w : World) : Calls Try.prog 77 #[.agg #[.int .i64 fb, .int .i64 fa], .agg #[.int .i64 tb, .int .i64 ta]] w fun e w' => e = .returned (.bool (ndB fb fa && (ndB tb ta && decide (fb ≠ tb)))) ∧ Below w.heap.size w w' := by
  have H1 := Lib.hid (fun w' => validNeedle_any fb fa w')
  have H2 := Lib.hid (fun w' => validNeedle_any tb ta w')
  have e3 : (fb != tb) = decide (fb ≠ tb) := by rw [Bool.eq_iff_iff]; simp
  have HB0 := Lib.hid (show Below w.heap.size w ((w.alloc (.cells #[.int .i64 fb, .int .i64 fa] 41)).alloc (.cells #[.int .i64 tb, .int .i64 ta] 41)) from ((Below.refl _ _).alloc (Nat.le_refl _) _).alloc (by simp) _)
  have hca : CellsAt ((w.alloc (.cells #[.int .i64 fb, .int .i64 fa] 41)).alloc (.cells #[.int .i64 tb, .int .i64 ta] 41)) w.heap.size 0 [.int .i64 fb, .int .i64 fa] := by
    intro j u hu; rcases j with _ | _ | j <;> simp at hu <;> subst hu <;> simp [go_sem]
  have hcb : CellsAt ((w.alloc (.cells #[.int .i64 fb, .int .i64 fa] 41)).alloc (.cells #[.int .i64 tb, .int .i64 ta] 41)) (w.heap.size + 1) 0 [.int .i64 tb, .int .i64 ta] := by
    intro j u hu; rcases j with _ | _ | j <;> simp at hu <;> subst hu <;> simp [go_sem]
  have HCA := Lib.hid hca
  have HCB := Lib.hid hcb
  clear hca hcb
  generalize ndB fb fa = B1 at *
  generalize ndB tb ta = B2 at *
  generalize decide (fb ≠ tb) = B3 at *
  cases B1
  · go_enter Try.func77, Try.ntmps77
    go_wp2_with fail
    refine (H1.out _).mono ?_
    rintro e w1 ⟨rfl, hb⟩
    have HB := Lib.hid (HB0.out.trans (hb.mono HB0.out.size))
    clear hb
    go_wp2
    go_ret
    exact ⟨rfl, HB.out⟩
  cases B2
  all_goals
    go_enter Try.func77, Try.ntmps77
    go_wp2_with fail
    refine (H1.out _).mono ?_
    rintro e w1 ⟨rfl, hb⟩
    have HB1 := Lib.hid (HB0.out.trans (hb.mono HB0.out.size))
    obtain ⟨y0, y1⟩ := (HCA.out.below hb (by simp; try omega)).two
    obtain ⟨x0, x1⟩ := (HCB.out.below hb (by simp; try omega)).two
    have HCA1 := Lib.hid (HCA.out.below hb (by simp; try omega))
    have HCB1 := Lib.hid (HCB.out.below hb (by simp; try omega))
    have HZ1 := Lib.hid (show w.heap.size + 2 ≤ w1.heap.size by have := hb.size; simp at this; omega)
    clear hb
    go_wp2_with fail
    refine (H2.out _).mono ?_
    rintro e w2 ⟨rfl, hb⟩
    have HB2 := Lib.hid (HB1.out.trans (hb.mono HB1.out.size))
    clear y0 y1 x0 x1
    obtain ⟨y0, y1⟩ := (HCA1.out.below hb (by have := HZ1.out; omega)).two
    obtain ⟨x0, x1⟩ := (HCB1.out.below hb (by have := HZ1.out; omega)).two
    clear hb
  · go_wp2
    go_ret
    exact ⟨rfl, HB2.out⟩
  · cases B3
    all_goals
      go_wp2
      go_ret
      exact ⟨ret_bool (by simp), HB2.out⟩

set_option maxHeartbeats 4000000 in
set_option maxRecDepth 100000 in
theorem validOp_1 (k : Int) (hk : k = 1 ∨ k = 2 ∨ k = 3) (d fb fa tb ta c r : Int) (w : World) : Calls Try.prog 36 #[(⟨k, d, fb, fa, tb, ta, c, r⟩ : Opr).v] w fun e w' => e = .returned (.bool (dirM d && (ndB fb fa && (inB 1 c 4 && ((decide (tb = 0) && decide (ta = 0)) && (decide (r = 0))))))) ∧ Below w.heap.size w w' := by
  have HB0 := Lib.hid (show Below w.heap.size w (w.alloc (.cells #[.int .i64 k, .int .i64 d, .int .i64 fb, .int .i64 fa, .int .i64 tb, .int .i64 ta, .int .i64 c, .int .i64 r] 43)) from (Below.refl _ _).alloc (Nat.le_refl _) _)
  have hca : CellsAt (w.alloc (.cells #[.int .i64 k, .int .i64 d, .int .i64 fb, .int .i64 fa, .int .i64 tb, .int .i64 ta, .int .i64 c, .int .i64 r] 43)) w.heap.size 0 [.int .i64 k, .int .i64 d, .int .i64 fb, .int .i64 fa, .int .i64 tb, .int .i64 ta, .int .i64 c, .int .i64 r] := CellsAt.of_alloc
  have HCA := Lib.hid hca
  clear hca
  have H0 := Lib.hid (fun w' => isDirection_s d w')
  have H1 := Lib.hid (fun w' => validNeedle_any fb fa w')
  have H2 := Lib.hid (fun w' => isCarrier_s c w')
  have e3 := fun W => eql_nd tb ta 0 0 W
  have e4 : (r == 0) = decide (r = 0) := rfl
  generalize dirM d = B0 at *
  generalize ndB fb fa = B1 at *
  generalize inB 1 c 4 = B2 at *
  generalize (decide (tb = 0) && decide (ta = 0)) = B3 at *
  generalize decide (r = 0) = B4 at *
  rcases hk with rfl | rfl | rfl
  all_goals
    cases B0
    · skip
      go_enter Try.func36, Try.ntmps36
      go_wp2_with fail
      refine (H0.out _).mono ?_
      rintro e w1 ⟨rfl, rfl⟩
      go_wp2
      go_ret
      exact ⟨ret_bool (by simp), HB0.out⟩
    cases B1
    · skip
      go_enter Try.func36, Try.ntmps36
      go_wp2_with fail
      refine (H0.out _).mono ?_
      rintro e w1 ⟨rfl, rfl⟩
      go_wp2_with fail
      refine (H1.out _).mono ?_
      rintro e w2 ⟨rfl, hb⟩
      have HBB1 := Lib.hid (HB0.out.trans (hb.mono HB0.out.size))
      have HCA1 := Lib.hid (HCA.out.below hb (by have := HB0.out.size; simp; try omega))
      obtain ⟨y0, y1, y2, y3, y4, y5, y6, y7⟩ := HCA1.out.eight
      clear hb
      go_wp2
      go_ret
      exact ⟨ret_bool (by simp), HBB1.out⟩
    cases B2
    · skip
      go_enter Try.func36, Try.ntmps36
      go_wp2_with fail
      refine (H0.out _).mono ?_
      rintro e w1 ⟨rfl, rfl⟩
      go_wp2_with fail
      refine (H1.out _).mono ?_
      rintro e w2 ⟨rfl, hb⟩
      have HBB1 := Lib.hid (HB0.out.trans (hb.mono HB0.out.size))
      have HCA1 := Lib.hid (HCA.out.below hb (by have := HB0.out.size; simp; try omega))
      obtain ⟨y0, y1, y2, y3, y4, y5, y6, y7⟩ := HCA1.out.eight
      clear hb
      go_wp2_with fail
      refine (H2.out _).mono ?_
      rintro e w3 ⟨rfl, rfl⟩
      go_wp2
      go_ret
      exact ⟨ret_bool (by simp), HBB1.out⟩
    cases B3
    · skip
      go_enter Try.func36, Try.ntmps36
      go_wp2_with fail
      refine (H0.out _).mono ?_
      rintro e w1 ⟨rfl, rfl⟩
      go_wp2_with fail
      refine (H1.out _).mono ?_
      rintro e w2 ⟨rfl, hb⟩
      have HBB1 := Lib.hid (HB0.out.trans (hb.mono HB0.out.size))
      have HCA1 := Lib.hid (HCA.out.below hb (by have := HB0.out.size; simp; try omega))
      obtain ⟨y0, y1, y2, y3, y4, y5, y6, y7⟩ := HCA1.out.eight
      clear hb
      go_wp2_with fail
      refine (H2.out _).mono ?_
      rintro e w3 ⟨rfl, rfl⟩
      go_wp2
      go_ret
      exact ⟨ret_bool (by simp), HBB1.out⟩
    cases B4
    all_goals
      go_enter Try.func36, Try.ntmps36
      go_wp2_with fail
      refine (H0.out _).mono ?_
      rintro e w1 ⟨rfl, rfl⟩
      go_wp2_with fail
      refine (H1.out _).mono ?_
      rintro e w2 ⟨rfl, hb⟩
      have HBB1 := Lib.hid (HB0.out.trans (hb.mono HB0.out.size))
      have HCA1 := Lib.hid (HCA.out.below hb (by have := HB0.out.size; simp; try omega))
      obtain ⟨y0, y1, y2, y3, y4, y5, y6, y7⟩ := HCA1.out.eight
      clear hb
      go_wp2_with fail
      refine (H2.out _).mono ?_
      rintro e w3 ⟨rfl, rfl⟩
      go_wp2
      go_ret
      exact ⟨ret_bool (by simp), HBB1.out⟩

set_option maxHeartbeats 4000000 in
set_option maxRecDepth 100000 in
theorem validOp_4 (d fb fa tb ta c r : Int) (w : World) : Calls Try.prog 36 #[(⟨4, d, fb, fa, tb, ta, c, r⟩ : Opr).v] w fun e w' => e = .returned (.bool ((ndB fb fa && (ndB tb ta && decide (fb ≠ tb))) && (decide (d = 0) && (decide (c = 0) && (decide (r = 0)))))) ∧ Below w.heap.size w w' := by
  have HB0 := Lib.hid (show Below w.heap.size w (w.alloc (.cells #[.int .i64 4, .int .i64 d, .int .i64 fb, .int .i64 fa, .int .i64 tb, .int .i64 ta, .int .i64 c, .int .i64 r] 43)) from (Below.refl _ _).alloc (Nat.le_refl _) _)
  have hca : CellsAt (w.alloc (.cells #[.int .i64 4, .int .i64 d, .int .i64 fb, .int .i64 fa, .int .i64 tb, .int .i64 ta, .int .i64 c, .int .i64 r] 43)) w.heap.size 0 [.int .i64 4, .int .i64 d, .int .i64 fb, .int .i64 fa, .int .i64 tb, .int .i64 ta, .int .i64 c, .int .i64 r] := CellsAt.of_alloc
  have HCA := Lib.hid hca
  clear hca
  have H0 := Lib.hid (fun w' => isPair_any fb fa tb ta w')
  have e1 : (d == 0) = decide (d = 0) := rfl
  have e2 : (c == 0) = decide (c = 0) := rfl
  have e3 : (r == 0) = decide (r = 0) := rfl
  generalize (ndB fb fa && (ndB tb ta && decide (fb ≠ tb))) = B0 at *
  generalize decide (d = 0) = B1 at *
  generalize decide (c = 0) = B2 at *
  generalize decide (r = 0) = B3 at *
  cases B0
  · skip
    go_enter Try.func36, Try.ntmps36
    go_wp2_with fail
    refine (H0.out _).mono ?_
    rintro e w1 ⟨rfl, hb⟩
    have HBB0 := Lib.hid (HB0.out.trans (hb.mono HB0.out.size))
    have HCA0 := Lib.hid (HCA.out.below hb (by have := HB0.out.size; simp; try omega))
    obtain ⟨y0, y1, y2, y3, y4, y5, y6, y7⟩ := HCA0.out.eight
    clear hb
    go_wp2
    go_ret
    exact ⟨ret_bool (by simp), HBB0.out⟩
  cases B1
  · skip
    go_enter Try.func36, Try.ntmps36
    go_wp2_with fail
    refine (H0.out _).mono ?_
    rintro e w1 ⟨rfl, hb⟩
    have HBB0 := Lib.hid (HB0.out.trans (hb.mono HB0.out.size))
    have HCA0 := Lib.hid (HCA.out.below hb (by have := HB0.out.size; simp; try omega))
    obtain ⟨y0, y1, y2, y3, y4, y5, y6, y7⟩ := HCA0.out.eight
    clear hb
    go_wp2
    go_ret
    exact ⟨ret_bool (by simp), HBB0.out⟩
  cases B2
  · skip
    go_enter Try.func36, Try.ntmps36
    go_wp2_with fail
    refine (H0.out _).mono ?_
    rintro e w1 ⟨rfl, hb⟩
    have HBB0 := Lib.hid (HB0.out.trans (hb.mono HB0.out.size))
    have HCA0 := Lib.hid (HCA.out.below hb (by have := HB0.out.size; simp; try omega))
    obtain ⟨y0, y1, y2, y3, y4, y5, y6, y7⟩ := HCA0.out.eight
    clear hb
    go_wp2
    go_ret
    exact ⟨ret_bool (by simp), HBB0.out⟩
  cases B3
  all_goals
    go_enter Try.func36, Try.ntmps36
    go_wp2_with fail
    refine (H0.out _).mono ?_
    rintro e w1 ⟨rfl, hb⟩
    have HBB0 := Lib.hid (HB0.out.trans (hb.mono HB0.out.size))
    have HCA0 := Lib.hid (HCA.out.below hb (by have := HB0.out.size; simp; try omega))
    obtain ⟨y0, y1, y2, y3, y4, y5, y6, y7⟩ := HCA0.out.eight
    clear hb
    go_wp2
    go_ret
    exact ⟨ret_bool (by simp), HBB0.out⟩

set_option maxHeartbeats 4000000 in
set_option maxRecDepth 100000 in
theorem validOp_5 (d fb fa tb ta c r : Int) (w : World) : Calls Try.prog 36 #[(⟨5, d, fb, fa, tb, ta, c, r⟩ : Opr).v] w fun e w' => e = .returned (.bool ((ndB fb fa && (ndB tb ta && decide (fb ≠ tb))) && (dirM d && (inB 1 c 4 && (decide (r = 0)))))) ∧ Below w.heap.size w w' := by
  have HB0 := Lib.hid (show Below w.heap.size w (w.alloc (.cells #[.int .i64 5, .int .i64 d, .int .i64 fb, .int .i64 fa, .int .i64 tb, .int .i64 ta, .int .i64 c, .int .i64 r] 43)) from (Below.refl _ _).alloc (Nat.le_refl _) _)
  have hca : CellsAt (w.alloc (.cells #[.int .i64 5, .int .i64 d, .int .i64 fb, .int .i64 fa, .int .i64 tb, .int .i64 ta, .int .i64 c, .int .i64 r] 43)) w.heap.size 0 [.int .i64 5, .int .i64 d, .int .i64 fb, .int .i64 fa, .int .i64 tb, .int .i64 ta, .int .i64 c, .int .i64 r] := CellsAt.of_alloc
  have HCA := Lib.hid hca
  clear hca
  have H0 := Lib.hid (fun w' => isPair_any fb fa tb ta w')
  have H1 := Lib.hid (fun w' => isDirection_s d w')
  have H2 := Lib.hid (fun w' => isCarrier_s c w')
  have e3 : (r == 0) = decide (r = 0) := rfl
  generalize (ndB fb fa && (ndB tb ta && decide (fb ≠ tb))) = B0 at *
  generalize dirM d = B1 at *
  generalize inB 1 c 4 = B2 at *
  generalize decide (r = 0) = B3 at *
  cases B0
  · skip
    go_enter Try.func36, Try.ntmps36
    go_wp2_with fail
    refine (H0.out _).mono ?_
    rintro e w1 ⟨rfl, hb⟩
    have HBB0 := Lib.hid (HB0.out.trans (hb.mono HB0.out.size))
    have HCA0 := Lib.hid (HCA.out.below hb (by have := HB0.out.size; simp; try omega))
    obtain ⟨y0, y1, y2, y3, y4, y5, y6, y7⟩ := HCA0.out.eight
    clear hb
    go_wp2
    go_ret
    exact ⟨ret_bool (by simp), HBB0.out⟩
  cases B1
  · skip
    go_enter Try.func36, Try.ntmps36
    go_wp2_with fail
    refine (H0.out _).mono ?_
    rintro e w1 ⟨rfl, hb⟩
    have HBB0 := Lib.hid (HB0.out.trans (hb.mono HB0.out.size))
    have HCA0 := Lib.hid (HCA.out.below hb (by have := HB0.out.size; simp; try omega))
    obtain ⟨y0, y1, y2, y3, y4, y5, y6, y7⟩ := HCA0.out.eight
    clear hb
    go_wp2_with fail
    refine (H1.out _).mono ?_
    rintro e w2 ⟨rfl, rfl⟩
    go_wp2
    go_ret
    exact ⟨ret_bool (by simp), HBB0.out⟩
  cases B2
  · skip
    go_enter Try.func36, Try.ntmps36
    go_wp2_with fail
    refine (H0.out _).mono ?_
    rintro e w1 ⟨rfl, hb⟩
    have HBB0 := Lib.hid (HB0.out.trans (hb.mono HB0.out.size))
    have HCA0 := Lib.hid (HCA.out.below hb (by have := HB0.out.size; simp; try omega))
    obtain ⟨y0, y1, y2, y3, y4, y5, y6, y7⟩ := HCA0.out.eight
    clear hb
    go_wp2_with fail
    refine (H1.out _).mono ?_
    rintro e w2 ⟨rfl, rfl⟩
    go_wp2_with fail
    refine (H2.out _).mono ?_
    rintro e w3 ⟨rfl, rfl⟩
    go_wp2
    go_ret
    exact ⟨ret_bool (by simp), HBB0.out⟩
  cases B3
  all_goals
    go_enter Try.func36, Try.ntmps36
    go_wp2_with fail
    refine (H0.out _).mono ?_
    rintro e w1 ⟨rfl, hb⟩
    have HBB0 := Lib.hid (HB0.out.trans (hb.mono HB0.out.size))
    have HCA0 := Lib.hid (HCA.out.below hb (by have := HB0.out.size; simp; try omega))
    obtain ⟨y0, y1, y2, y3, y4, y5, y6, y7⟩ := HCA0.out.eight
    clear hb
    go_wp2_with fail
    refine (H1.out _).mono ?_
    rintro e w2 ⟨rfl, rfl⟩
    go_wp2_with fail
    refine (H2.out _).mono ?_
    rintro e w3 ⟨rfl, rfl⟩
    go_wp2
    go_ret
    exact ⟨ret_bool (by simp), HBB0.out⟩

set_option maxHeartbeats 4000000 in
set_option maxRecDepth 100000 in
theorem validOp_6 (d fb fa tb ta c r : Int) (w : World) : Calls Try.prog 36 #[(⟨6, d, fb, fa, tb, ta, c, r⟩ : Opr).v] w fun e w' => e = .returned (.bool (ndB fb fa && (decide ((⟨6, d, fb, fa, tb, ta, c, r⟩ : Opr) = ⟨6, 0, fb, fa, 0, 0, 0, 0⟩)))) ∧ Below w.heap.size w w' := by
  have HB0 := Lib.hid (show Below w.heap.size w (w.alloc (.cells #[.int .i64 6, .int .i64 d, .int .i64 fb, .int .i64 fa, .int .i64 tb, .int .i64 ta, .int .i64 c, .int .i64 r] 43)) from (Below.refl _ _).alloc (Nat.le_refl _) _)
  have hca : CellsAt (w.alloc (.cells #[.int .i64 6, .int .i64 d, .int .i64 fb, .int .i64 fa, .int .i64 tb, .int .i64 ta, .int .i64 c, .int .i64 r] 43)) w.heap.size 0 [.int .i64 6, .int .i64 d, .int .i64 fb, .int .i64 fa, .int .i64 tb, .int .i64 ta, .int .i64 c, .int .i64 r] := CellsAt.of_alloc
  have HCA := Lib.hid hca
  clear hca
  have H0 := Lib.hid (fun w' => validNeedle_any fb fa w')
  have e1 := fun W => eql_op ⟨6, d, fb, fa, tb, ta, c, r⟩ ⟨6, 0, fb, fa, 0, 0, 0, 0⟩ W
  generalize ndB fb fa = B0 at *
  generalize decide ((⟨6, d, fb, fa, tb, ta, c, r⟩ : Opr) = ⟨6, 0, fb, fa, 0, 0, 0, 0⟩) = B1 at *
  cases B0
  · skip
    go_enter Try.func36, Try.ntmps36
    go_wp2_with fail
    refine (H0.out _).mono ?_
    rintro e w1 ⟨rfl, hb⟩
    have HBB0 := Lib.hid (HB0.out.trans (hb.mono HB0.out.size))
    have HCA0 := Lib.hid (HCA.out.below hb (by have := HB0.out.size; simp; try omega))
    obtain ⟨y0, y1, y2, y3, y4, y5, y6, y7⟩ := HCA0.out.eight
    clear hb
    go_wp2
    go_ret
    exact ⟨ret_bool (by simp), HBB0.out⟩
  cases B1
  all_goals
    go_enter Try.func36, Try.ntmps36
    go_wp2_with fail
    refine (H0.out _).mono ?_
    rintro e w1 ⟨rfl, hb⟩
    have HBB0 := Lib.hid (HB0.out.trans (hb.mono HB0.out.size))
    have HCA0 := Lib.hid (HCA.out.below hb (by have := HB0.out.size; simp; try omega))
    obtain ⟨y0, y1, y2, y3, y4, y5, y6, y7⟩ := HCA0.out.eight
    clear hb
    go_wp2
    go_ret
    exact ⟨ret_bool (by simp), HBB0.out⟩

set_option maxHeartbeats 4000000 in
set_option maxRecDepth 100000 in
theorem validOp_7 (d fb fa tb ta c r : Int) (w : World) : Calls Try.prog 36 #[(⟨7, d, fb, fa, tb, ta, c, r⟩ : Opr).v] w fun e w' => e = .returned (.bool (inB (-3) r 3 && (decide ((⟨7, d, fb, fa, tb, ta, c, r⟩ : Opr) = ⟨7, 0, 0, 0, 0, 0, 0, r⟩)))) ∧ Below w.heap.size w w' := by
  have HB0 := Lib.hid (show Below w.heap.size w (w.alloc (.cells #[.int .i64 7, .int .i64 d, .int .i64 fb, .int .i64 fa, .int .i64 tb, .int .i64 ta, .int .i64 c, .int .i64 r] 43)) from (Below.refl _ _).alloc (Nat.le_refl _) _)
  have hca : CellsAt (w.alloc (.cells #[.int .i64 7, .int .i64 d, .int .i64 fb, .int .i64 fa, .int .i64 tb, .int .i64 ta, .int .i64 c, .int .i64 r] 43)) w.heap.size 0 [.int .i64 7, .int .i64 d, .int .i64 fb, .int .i64 fa, .int .i64 tb, .int .i64 ta, .int .i64 c, .int .i64 r] := CellsAt.of_alloc
  have HCA := Lib.hid hca
  clear hca
  have H0 := Lib.hid (fun w' => isRack_s r w')
  have e1 := fun W => eql_op ⟨7, d, fb, fa, tb, ta, c, r⟩ ⟨7, 0, 0, 0, 0, 0, 0, r⟩ W
  generalize inB (-3) r 3 = B0 at *
  generalize decide ((⟨7, d, fb, fa, tb, ta, c, r⟩ : Opr) = ⟨7, 0, 0, 0, 0, 0, 0, r⟩) = B1 at *
  cases B0
  · skip
    go_enter Try.func36, Try.ntmps36
    go_wp2_with fail
    refine (H0.out _).mono ?_
    rintro e w1 ⟨rfl, rfl⟩
    go_wp2
    go_ret
    exact ⟨ret_bool (by simp), HB0.out⟩
  cases B1
  all_goals
    go_enter Try.func36, Try.ntmps36
    go_wp2_with fail
    refine (H0.out _).mono ?_
    rintro e w1 ⟨rfl, rfl⟩
    go_wp2
    go_ret
    exact ⟨ret_bool (by simp), HB0.out⟩

set_option maxHeartbeats 4000000 in
set_option maxRecDepth 100000 in
theorem validOp_8 (d fb fa tb ta c r : Int) (w : World) : Calls Try.prog 36 #[(⟨8, d, fb, fa, tb, ta, c, r⟩ : Opr).v] w fun e w' => e = .returned (.bool (dirM d && (inB 1 c 4 && (decide ((⟨8, d, fb, fa, tb, ta, c, r⟩ : Opr) = ⟨8, d, 0, 0, 0, 0, c, 0⟩))))) ∧ Below w.heap.size w w' := by
  have HB0 := Lib.hid (show Below w.heap.size w (w.alloc (.cells #[.int .i64 8, .int .i64 d, .int .i64 fb, .int .i64 fa, .int .i64 tb, .int .i64 ta, .int .i64 c, .int .i64 r] 43)) from (Below.refl _ _).alloc (Nat.le_refl _) _)
  have hca : CellsAt (w.alloc (.cells #[.int .i64 8, .int .i64 d, .int .i64 fb, .int .i64 fa, .int .i64 tb, .int .i64 ta, .int .i64 c, .int .i64 r] 43)) w.heap.size 0 [.int .i64 8, .int .i64 d, .int .i64 fb, .int .i64 fa, .int .i64 tb, .int .i64 ta, .int .i64 c, .int .i64 r] := CellsAt.of_alloc
  have HCA := Lib.hid hca
  clear hca
  have H0 := Lib.hid (fun w' => isDirection_s d w')
  have H1 := Lib.hid (fun w' => isCarrier_s c w')
  have e2 := fun W => eql_op ⟨8, d, fb, fa, tb, ta, c, r⟩ ⟨8, d, 0, 0, 0, 0, c, 0⟩ W
  generalize dirM d = B0 at *
  generalize inB 1 c 4 = B1 at *
  generalize decide ((⟨8, d, fb, fa, tb, ta, c, r⟩ : Opr) = ⟨8, d, 0, 0, 0, 0, c, 0⟩) = B2 at *
  cases B0
  · skip
    go_enter Try.func36, Try.ntmps36
    go_wp2_with fail
    refine (H0.out _).mono ?_
    rintro e w1 ⟨rfl, rfl⟩
    go_wp2
    go_ret
    exact ⟨ret_bool (by simp), HB0.out⟩
  cases B1
  · skip
    go_enter Try.func36, Try.ntmps36
    go_wp2_with fail
    refine (H0.out _).mono ?_
    rintro e w1 ⟨rfl, rfl⟩
    go_wp2_with fail
    refine (H1.out _).mono ?_
    rintro e w2 ⟨rfl, rfl⟩
    go_wp2
    go_ret
    exact ⟨ret_bool (by simp), HB0.out⟩
  cases B2
  all_goals
    go_enter Try.func36, Try.ntmps36
    go_wp2_with fail
    refine (H0.out _).mono ?_
    rintro e w1 ⟨rfl, rfl⟩
    go_wp2_with fail
    refine (H1.out _).mono ?_
    rintro e w2 ⟨rfl, rfl⟩
    go_wp2
    go_ret
    exact ⟨ret_bool (by simp), HB0.out⟩

set_option maxHeartbeats 4000000 in
set_option maxRecDepth 100000 in
theorem validOp_9 (d fb fa tb ta c r : Int) (w : World) : Calls Try.prog 36 #[(⟨9, d, fb, fa, tb, ta, c, r⟩ : Opr).v] w fun e w' => e = .returned (.bool (inB 1 c 4 && (decide ((⟨9, d, fb, fa, tb, ta, c, r⟩ : Opr) = ⟨9, 0, 0, 0, 0, 0, c, 0⟩)))) ∧ Below w.heap.size w w' := by
  have HB0 := Lib.hid (show Below w.heap.size w (w.alloc (.cells #[.int .i64 9, .int .i64 d, .int .i64 fb, .int .i64 fa, .int .i64 tb, .int .i64 ta, .int .i64 c, .int .i64 r] 43)) from (Below.refl _ _).alloc (Nat.le_refl _) _)
  have hca : CellsAt (w.alloc (.cells #[.int .i64 9, .int .i64 d, .int .i64 fb, .int .i64 fa, .int .i64 tb, .int .i64 ta, .int .i64 c, .int .i64 r] 43)) w.heap.size 0 [.int .i64 9, .int .i64 d, .int .i64 fb, .int .i64 fa, .int .i64 tb, .int .i64 ta, .int .i64 c, .int .i64 r] := CellsAt.of_alloc
  have HCA := Lib.hid hca
  clear hca
  have H0 := Lib.hid (fun w' => isCarrier_s c w')
  have e1 := fun W => eql_op ⟨9, d, fb, fa, tb, ta, c, r⟩ ⟨9, 0, 0, 0, 0, 0, c, 0⟩ W
  generalize inB 1 c 4 = B0 at *
  generalize decide ((⟨9, d, fb, fa, tb, ta, c, r⟩ : Opr) = ⟨9, 0, 0, 0, 0, 0, c, 0⟩) = B1 at *
  cases B0
  · skip
    go_enter Try.func36, Try.ntmps36
    go_wp2_with fail
    refine (H0.out _).mono ?_
    rintro e w1 ⟨rfl, rfl⟩
    go_wp2
    go_ret
    exact ⟨ret_bool (by simp), HB0.out⟩
  cases B1
  all_goals
    go_enter Try.func36, Try.ntmps36
    go_wp2_with fail
    refine (H0.out _).mono ?_
    rintro e w1 ⟨rfl, rfl⟩
    go_wp2
    go_ret
    exact ⟨ret_bool (by simp), HB0.out⟩

set_option maxHeartbeats 2000000 in
theorem validOp_0 (k d fb fa tb ta c r : Int) (w : World) (h1 : (k == 1) = false) (h2 : (k == 2) = false) (h3 : (k == 3) = false) (h4 : (k == 4) = false) (h5 : (k == 5) = false) (h6 : (k == 6) = false) (h7 : (k == 7) = false) (h8 : (k == 8) = false) (h9 : (k == 9) = false) :
    Calls Try.prog 36 #[(⟨k, d, fb, fa, tb, ta, c, r⟩ : Opr).v] w fun e w' => e = .returned (.bool false) ∧ Below w.heap.size w w' := by
  go_enter Try.func36, Try.ntmps36
  go_wp2
  go_ret
  exact ⟨rfl, (Below.refl _ _).alloc (Nat.le_refl _) _⟩

/-- Is an operation valid? -/
def okOp (o : Opr) : Bool :=
  if o.k = 1 ∨ o.k = 2 ∨ o.k = 3 then dirM o.d && (ndB o.fb o.fa && (inB 1 o.c 4 && ((decide (o.tb = 0) && decide (o.ta = 0)) && decide (o.r = 0))))
  else if o.k = 4 then (ndB o.fb o.fa && (ndB o.tb o.ta && decide (o.fb ≠ o.tb))) && (decide (o.d = 0) && (decide (o.c = 0) && decide (o.r = 0)))
  else if o.k = 5 then (ndB o.fb o.fa && (ndB o.tb o.ta && decide (o.fb ≠ o.tb))) && (dirM o.d && (inB 1 o.c 4 && decide (o.r = 0)))
  else if o.k = 6 then ndB o.fb o.fa && decide (o = ⟨6, 0, o.fb, o.fa, 0, 0, 0, 0⟩)
  else if o.k = 7 then inB (-3) o.r 3 && decide (o = ⟨7, 0, 0, 0, 0, 0, 0, o.r⟩)
  else if o.k = 8 then dirM o.d && (inB 1 o.c 4 && decide (o = ⟨8, o.d, 0, 0, 0, 0, o.c, 0⟩))
  else if o.k = 9 then inB 1 o.c 4 && decide (o = ⟨9, 0, 0, 0, 0, 0, o.c, 0⟩)
  else false
theorem validOp_any (o : Opr) (w : World) : Calls Try.prog 36 #[o.v] w fun e w' => e = .returned (.bool (okOp o)) ∧ Below w.heap.size w w' := by
  obtain ⟨k, d, fb, fa, tb, ta, c, r⟩ := o
  by_cases h1 : k = 1 ∨ k = 2 ∨ k = 3
  · have := validOp_1 k h1 d fb fa tb ta c r w
    rwa [show okOp ⟨k, d, fb, fa, tb, ta, c, r⟩ = _ from if_pos h1]
  have hn : k ≠ 1 ∧ k ≠ 2 ∧ k ≠ 3 := by omega
  by_cases h4 : k = 4
  · subst h4; exact validOp_4 d fb fa tb ta c r w
  by_cases h5 : k = 5
  · subst h5; exact validOp_5 d fb fa tb ta c r w
  by_cases h6 : k = 6
  · subst h6; exact validOp_6 d fb fa tb ta c r w
  by_cases h7 : k = 7
  · subst h7; exact validOp_7 d fb fa tb ta c r w
  by_cases h8 : k = 8
  · subst h8; exact validOp_8 d fb fa tb ta c r w
  by_cases h9 : k = 9
  · subst h9; exact validOp_9 d fb fa tb ta c r w
  have e : okOp ⟨k, d, fb, fa, tb, ta, c, r⟩ = false := by unfold okOp; simp [hn.1, hn.2.1, hn.2.2, h4, h5, h6, h7, h8, h9]
  rw [e]
  exact validOp_0 k d fb fa tb ta c r w (by simpa using hn.1) (by simpa using hn.2.1) (by simpa using hn.2.2) (by simpa using h4) (by simpa using h5) (by simpa using h6) (by simpa using h7) (by simpa using h8) (by simpa using h9)

end Go.Proofs.Ythhpjgdeehcgjaa
