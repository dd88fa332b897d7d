/-
  Operations and needles as plain data, and what the laws' helpers for operations do.
-/
import Derived.Test.YtolcgopfbbmjgaaRows
import Derived.Test.YtolcgopfbbmjgaaMem
import Derived.Test.YtolcgopfbbmjgaaWords
import Derived.Test.YtolcgopfbbmjgaaMark
import Derived.Deep.OwnRows
namespace Go.Proofs.Ytolcgopfbbmjgaa
set_option linter.unusedVariables false
set_option linter.unusedSimpArgs false
open Go.RowKit

structure Opr where
  k : Int
  d : Int
  fb : Int
  fa : Int
  tb : Int
  ta : Int
  c : Int
  r : Int
deriving DecidableEq
abbrev Opr.v (e : Opr) : Value := .agg #[.int .i64 e.k, .int .i64 e.d, .int .i64 e.fb, .int .i64 e.fa, .int .i64 e.tb, .int .i64 e.ta, .int .i64 e.c, .int .i64 e.r]
abbrev Opr.cells (e : Opr) : List Value := [.int .i64 e.k, .int .i64 e.d, .int .i64 e.fb, .int .i64 e.fa, .int .i64 e.tb, .int .i64 e.ta, .int .i64 e.c, .int .i64 e.r]
abbrev RdO := RdS Opr.cells 8
abbrev vO := vS Opr.cells
theorem Opr.len (e : Opr) : e.cells.length = 8 := rfl
theorem info_op : (Try.prog.info? 55).map (fun i => (i.zero, i.size, i.bytes)) = some (some (.agg #[.int .i64 0, .int .i64 0, .int .i64 0, .int .i64 0, .int .i64 0, .int .i64 0, .int .i64 0, .int .i64 0]), 8, 64) := by kernel_rfl
theorem rowIs_set8 {w : World} {b t n : Nat} {f : Nat → Value} (h : w.rowIs b t n f) (o : Nat) (u0 u1 u2 u3 u4 u5 u6 u7 : Value) :
    ((((((((w.setCell ⟨b, o, none⟩ u0).setCell ⟨b, o + 1, none⟩ u1).setCell ⟨b, o + 2, none⟩ u2).setCell ⟨b, o + 3, none⟩ u3).setCell ⟨b, o + 4, none⟩ u4).setCell ⟨b, o + 5, none⟩ u5).setCell ⟨b, o + 6, none⟩ u6).setCell ⟨b, o + 7, none⟩ u7).rowIs b t n
      (fun j => if j = o + 7 then u7 else if j = o + 6 then u6 else if j = o + 5 then u5 else if j = o + 4 then u4 else if j = o + 3 then u3 else if j = o + 2 then u2 else if j = o + 1 then u1 else if j = o then u0 else f j) :=
  (((((((h.set _ _).set _ _).set _ _).set _ _).set _ _).set _ _).set _ _).set _ _
theorem below_set8 {B : Nat} {a w : World} (h : Below B a w) {b o : Nat} (hb : B ≤ b) (u0 u1 u2 u3 u4 u5 u6 u7 : Value) :
    Below B a ((((((((w.setCell ⟨b, o, none⟩ u0).setCell ⟨b, o + 1, none⟩ u1).setCell ⟨b, o + 2, none⟩ u2).setCell ⟨b, o + 3, none⟩ u3).setCell ⟨b, o + 4, none⟩ u4).setCell ⟨b, o + 5, none⟩ u5).setCell ⟨b, o + 6, none⟩ u6).setCell ⟨b, o + 7, none⟩ u7) :=
  (((((((h.setCell hb _).setCell hb _).setCell hb _).setCell hb _).setCell hb _).setCell hb _).setCell hb _).setCell hb _
theorem fill8 {α : Type} {cs : α → List Value} {f : Nat → Value} {l : List α} {k : Nat} {x : α} {u0 u1 u2 u3 u4 u5 u6 u7 : Value} (hx : l[k]? = some x) (hc : cs x = [u0, u1, u2, u3, u4, u5, u6, u7])
    (hf : ∀ q x, q < k → l[q]? = some x → ∀ j, j < 8 → some (f (q * 8 + j)) = (cs x)[j]?) :
    ∀ q x, q < k + 1 → l[q]? = some x → ∀ j, j < 8 → some ((fun j => if j = k * 8 + 7 then u7 else if j = k * 8 + 6 then u6 else if j = k * 8 + 5 then u5 else if j = k * 8 + 4 then u4 else if j = k * 8 + 3 then u3 else if j = k * 8 + 2 then u2 else if j = k * 8 + 1 then u1 else if j = k * 8 then u0 else f j) (q * 8 + j)) = (cs x)[j]? := by
  intro q y hq hy j hj
  by_cases hqk : q = k
  · subst hqk
    rw [hx] at hy
    injection hy with hy
    subst hy
    rw [hc]
    obtain rfl | rfl | rfl | rfl | rfl | rfl | rfl | rfl : j = 0 ∨ j = 1 ∨ j = 2 ∨ j = 3 ∨ j = 4 ∨ j = 5 ∨ j = 6 ∨ j = 7 := by omega
    all_goals simp
  · show some (if q * 8 + j = k * 8 + 7 then u7 else if q * 8 + j = k * 8 + 6 then u6 else if q * 8 + j = k * 8 + 5 then u5 else if q * 8 + j = k * 8 + 4 then u4 else if q * 8 + j = k * 8 + 3 then u3 else if q * 8 + j = k * 8 + 2 then u2 else if q * 8 + j = k * 8 + 1 then u1 else if q * 8 + j = k * 8 then u0 else f (q * 8 + j)) = _
    rw [if_neg (by omega), if_neg (by omega), if_neg (by omega), if_neg (by omega), if_neg (by omega), if_neg (by omega), if_neg (by omega), if_neg (by omega)]
    exact hf q y (by omega) hy j hj

theorem eqlIn_nd (d : Nat) (a b p q : Int) (W : World) : (Op.equalIn (d + 2) 53 (.agg #[.int .i64 a, .int .i64 b]) (.agg #[.int .i64 p, .int .i64 q])).run Try.prog W = .ok (decide (a = p) && decide (b = q)) W := by
  rw [run_equalIn_struct (P := Try.prog) W (d + 1) 53 _ _ (by kernel_rfl) (by kernel_rfl)]
  have hf : (Try.prog.fieldsOf 53).toList = [⟨ "Bed", 2, 0, false, "", "", 0⟩, ⟨ "At", 2, 1, false, "", "", 8⟩] := by kernel_rfl
  rw [hf]
  generalize hk : decide (a = p) = bk
  generalize hp : decide (b = q) = bp
  have hk' : (a == p) = bk := by rw [← hk]; rfl
  have hp' : (b == q) = bp := by rw [← hp]; rfl
  simp [go_sem, Op.eqFields, hk', hp', -beq_iff_eq]
  cases bk <;> cases bp <;> rfl
theorem neq_nd (a b p q : Int) (W : World) : (binOp .neq 53 (.agg #[.int .i64 a, .int .i64 b]) (.agg #[.int .i64 p, .int .i64 q])).run Try.prog W = .ok (.bool (!(decide (a = p) && decide (b = q)))) W := by
  rw [run_neq_struct, eqlIn_nd 9998]
  rfl
theorem eql_nd (a b p q : Int) (W : World) : (binOp .eql 53 (.agg #[.int .i64 a, .int .i64 b]) (.agg #[.int .i64 p, .int .i64 q])).run Try.prog W = .ok (.bool (decide (a = p) && decide (b = q))) W := by
  rw [run_eql_struct, eqlIn_nd 9998]
  rfl

theorem eqlIn_op (d : Nat) (x y : Opr) (W : World) : (Op.equalIn (d + 3) 55 x.v y.v).run Try.prog W = .ok (decide (x = y)) W := by
  rw [run_equalIn_struct (P := Try.prog) W (d + 2) 55 _ _ (by kernel_rfl) (by kernel_rfl)]
  have hf : (Try.prog.fieldsOf 55).toList = [⟨ "Kind", 2, 0, false, "", "", 0⟩, ⟨ "Dir", 2, 1, false, "", "", 8⟩, ⟨ "From", 53, 2, false, "", "", 16⟩, ⟨ "To", 53, 4, false, "", "", 32⟩, ⟨ "Carrier", 2, 6, false, "", "", 48⟩, ⟨ "Rack", 2, 7, false, "", "", 56⟩] := by kernel_rfl
  rw [hf]
  have e : decide (x = y) = (x.k == y.k && (x.d == y.d && ((decide (x.fb = y.fb) && decide (x.fa = y.fa)) && ((decide (x.tb = y.tb) && decide (x.ta = y.ta)) && (x.c == y.c && x.r == y.r))))) := by
    cases x; cases y
    rw [Bool.eq_iff_iff]
    simp
    intro _ _
    exact ⟨fun ⟨a, b, c, d, e, f⟩ => ⟨⟨a, b⟩, ⟨c, d⟩, e, f⟩, fun ⟨⟨a, b⟩, ⟨c, d⟩, e, f⟩ => ⟨a, b, c, d, e, f⟩⟩
  rw [e]
  have h1 := fun W => eqlIn_nd d x.fb x.fa y.fb y.fa W
  have h2 := fun W => eqlIn_nd d x.tb x.ta y.tb y.ta W
  generalize (decide (x.fb = y.fb) && decide (x.fa = y.fa)) = bb at *
  generalize (decide (x.tb = y.tb) && decide (x.ta = y.ta)) = bd at *
  generalize hk : (x.k == y.k) = bk
  generalize hp : (x.d == y.d) = bp
  generalize hc : (x.c == y.c) = bc
  generalize hd : (x.r == y.r) = be
  simp [go_sem, Op.eqFields, hk, hp, hc, hd, h1, h2, -beq_iff_eq]
  cases bk <;> cases bp <;> cases bc <;> cases bb <;> cases bd <;> cases be <;> rfl
theorem neq_op (x y : Opr) (W : World) : (binOp .neq 55 x.v y.v).run Try.prog W = .ok (.bool (!decide (x = y))) W := by
  rw [run_neq_struct, eqlIn_op 9997]
  rfl
theorem eql_op (x y : Opr) (W : World) : (binOp .eql 55 x.v y.v).run Try.prog W = .ok (.bool (decide (x = y))) W := by
  rw [run_eql_struct, eqlIn_op 9997]
  rfl

theorem toNeedle_any (a b : Int) (w : World) : Calls Try.prog 36 #[.agg #[.int .i64 a, .int .i64 b]] w fun x w' => x = .returned (.agg #[.int .i64 a, .int .i64 b]) ∧ Below w.heap.size w w' := by
  go_enter Try.func36, Try.ntmps36
  go_wp2
  refine bodyPost_ret (v := .agg #[.int .i64 a, .int .i64 b]) (by simp [results, Try.results36, go_sem]) rfl ⟨rfl, ?_⟩
  exact (((Below.refl _ _).alloc (Nat.le_refl _) _).alloc (by simp) _).alloc (by simp; omega) _

theorem eqNeedle_any (a b p q : Int) (w : World) : Calls Try.prog 44 #[.agg #[.int .i64 a, .int .i64 b], .agg #[.int .i64 p, .int .i64 q]] w fun x w' => x = .returned (.bool (decide (a = p) && decide (b = q))) ∧ Below w.heap.size w w' := by
  by_cases h1 : a = p
  · subst h1
    by_cases h2 : b = q
    · subst h2
      go_enter Try.func44, Try.ntmps44
      go_wp2
      go_ret
      exact ⟨ret_bool (by simp), ((Below.refl _ _).alloc (Nat.le_refl _) _).alloc (by simp) _⟩
    · have h3 : (b != q) = true := by simpa using h2
      have h4 : decide (b = q) = false := by simpa using h2
      rw [h4]
      clear h2
      go_enter Try.func44, Try.ntmps44
      go_wp2
      go_ret
      exact ⟨ret_bool (by simp), ((Below.refl _ _).alloc (Nat.le_refl _) _).alloc (by simp) _⟩
  · have h3 : (a != p) = true := by simpa using h1
    have h4 : decide (a = p) = false := by simpa using h1
    rw [h4]
    clear h1
    go_enter Try.func44, Try.ntmps44
    go_wp2
    go_ret
    exact ⟨ret_bool (by simp), ((Below.refl _ _).alloc (Nat.le_refl _) _).alloc (by simp) _⟩

end Go.Proofs.Ytolcgopfbbmjgaa
