/-
  The passes of operations: the plain law, and small functions.
-/
import Derived.Test.YtolcgopfbbmjgaaOpL
import Derived.Test.YtolcgopfbbmjgaaPas
import Derived.Test.YtolcgopfbbmjgaaSpot
import Derived.Test.YtolcgopfbbmjgaaPlc
namespace Go.Proofs.Ytolcgopfbbmjgaa
set_option linter.unusedVariables false
set_option linter.unusedSimpArgs false
open Go.RowKit

/-- The kind of passes of an operation's kind. -/
def psK (k : Int) : Int := if k = 1 ∨ k = 2 ∨ k = 3 ∨ k = 5 then 1 else if k = 4 then 2 else if k = 6 then 3 else 0
def psFit (p : Pas) (o : Opr) (kd pl q : Int) : Bool := decide (p.k = kd) && (decide (p.d = o.d) && (decide (p.c = o.c) && (decide (kd ≠ 1) || decide (0 < (pl - q) * o.d))))
def bump (p : Pas) : Pas := ⟨p.k, p.d, p.c, p.r, p.f, p.n + 1⟩
def psPush (k : Nat) (r : Int) (acc : List Pas) (o : Opr) : List Pas := acc ++ [⟨psK o.k, o.d, o.c, r, k, 1⟩]
def psOne (k : Nat) (r q : Int) (acc : List Pas) (o : Opr) : Option Pas → List Pas
  | some p => if psFit p o (psK o.k) (plc o.fb o.fa r) q = true then acc.dropLast ++ [bump p] else psPush k r acc o
  | none => psPush k r acc o
def psAcc (k : Nat) (r : Int) (acc : List Pas) (o : Opr) : Option Int → List Pas
  | some q => psOne k r q acc o acc.getLast?
  | none => psPush k r acc o
def psGo : Nat → Int → Option Int → List Pas → List Opr → List Pas
  | _, _, _, acc, [] => acc
  | k, r, lt, acc, o :: t => if psK o.k = 0 then psGo (k + 1) (if o.k = 7 then o.r else r) none acc t else psGo (k + 1) r (some (plc o.fb o.fa r)) (psAcc k r acc o lt) t
def psL (l : List Opr) : List Pas := psGo 0 0 none [] l
section
variable {R : List Pas} {k : Nat} {r : Int} {lt : Option Int} {acc : List Pas} {l : List Opr} {o : Opr}
theorem ps_zero (h : R = psGo k r lt acc (l.drop k)) (ho : l[k]? = some o) (hz : psK o.k = 0) : R = psGo (k + 1) (if o.k = 7 then o.r else r) none acc (l.drop (k + 1)) := by
  rw [h, drop_of_get ho, psGo, if_pos hz]
theorem ps_none (h : R = psGo k r none acc (l.drop k)) (ho : l[k]? = some o) (hz : psK o.k ≠ 0) : R = psGo (k + 1) r (some (plc o.fb o.fa r)) (acc ++ [⟨psK o.k, o.d, o.c, r, k, 1⟩]) (l.drop (k + 1)) := by
  rw [h, drop_of_get ho, psGo, if_neg hz]
  rfl
theorem ps_fit {q : Int} {ys : List Pas} {p : Pas} (h : R = psGo k r (some q) (ys ++ [p]) (l.drop k)) (ho : l[k]? = some o) (hz : psK o.k ≠ 0) (hf : psFit p o (psK o.k) (plc o.fb o.fa r) q = true) : R = psGo (k + 1) r (some (plc o.fb o.fa r)) (ys ++ [bump p]) (l.drop (k + 1)) := by
  rw [h, drop_of_get ho, psGo, if_neg hz]
  unfold psAcc
  simp only
  rw [List.getLast?_concat]
  unfold psOne
  simp only [hf, if_true, List.dropLast_concat]
theorem ps_not {q : Int} {ys : List Pas} {p : Pas} (h : R = psGo k r (some q) (ys ++ [p]) (l.drop k)) (ho : l[k]? = some o) (hz : psK o.k ≠ 0) (hf : psFit p o (psK o.k) (plc o.fb o.fa r) q = false) : R = psGo (k + 1) r (some (plc o.fb o.fa r)) (ys ++ [p] ++ [⟨psK o.k, o.d, o.c, r, k, 1⟩]) (l.drop (k + 1)) := by
  rw [h, drop_of_get ho, psGo, if_neg hz]
  unfold psAcc
  simp only
  rw [List.getLast?_concat]
  unfold psOne
  simp only [hf]
  rfl
theorem ps_end (h : R = psGo k r lt acc (l.drop k)) (hk : l.length ≤ k) : R = acc := by
  rw [h, List.drop_of_length_le hk, psGo]
end
theorem psK_cases (k : Int) : psK k = 0 ∨ psK k = 1 ∨ psK k = 2 ∨ psK k = 3 := by unfold psK; split <;> (try split) <;> (try split) <;> omega
theorem vPs_snoc (l : List Pas) (x : Pas) : vPs (l ++ [x]) = vPs l ++ x.cells := by simp [vS]
theorem vPs_len (l : List Pas) : (vPs l).length = l.length * 6 := vS_len Pas.len l
theorem vPs_last (ys : List Pas) (p : Pas) {j : Nat} (hj : j < 6) : (vPs (ys ++ [p]))[ys.length * 6 + j]? = p.cells[j]? := vS_get Pas.len (ys ++ [p]) ys.length p (by simp) j hj
theorem vPs_bump (ys : List Pas) (p : Pas) : (vPs (ys ++ [p])).set (ys.length * 6 + 5) (.int .i64 (p.n + 1)) = vPs (ys ++ [bump p]) := by
  rw [vPs_snoc, vPs_snoc, List.set_append_right _ _ (by rw [vPs_len]; omega), vPs_len, show ys.length * 6 + 5 - ys.length * 6 = 5 by omega]
  rfl
/-- What is known of a valid operation. -/
theorem okOp_rng {o : Opr} (h : okOp o = true) : -3 ≤ o.r ∧ o.r ≤ 3 ∧ (psK o.k ≠ 0 → 0 ≤ o.fa ∧ o.fa ≤ 23) ∧ (psK o.k = 1 → o.d = 1 ∨ o.d = -1) ∧ (psK o.k = 2 ∨ psK o.k = 3 → o.d = 0 ∧ o.c = 0) := by
  obtain ⟨k, d, fb, fa, tb, ta, c, r⟩ := o
  have nd : ∀ {b a : Int}, ndB b a = true → 0 ≤ a ∧ a ≤ 23 := fun {b a} h => by
    unfold ndB at h
    simp only [Bool.and_eq_true] at h
    exact inB_iff.1 h.2
  have dr : ∀ {d : Int}, dirM d = true → d = 1 ∨ d = -1 := fun {d} h => by unfold dirM at h; simpa using h
  unfold okOp at h
  simp only at h ⊢
  split at h
  · rename_i hk
    simp only [Bool.and_eq_true, decide_eq_true_eq] at h
    obtain ⟨h1, h2, h3, h4, h5⟩ := h
    have hpk : psK k = 1 := by unfold psK; rw [if_pos (by omega)]
    exact ⟨by omega, by omega, fun _ => nd h2, fun _ => dr h1, fun h => by omega⟩
  split at h
  · rename_i hk1 hk
    simp only [Bool.and_eq_true, decide_eq_true_eq] at h
    obtain ⟨⟨h1, h2, h3⟩, h4, h5, h6⟩ := h
    exact ⟨by omega, by omega, fun _ => nd h1, fun hp => by subst hk; simp [psK] at hp, fun _ => ⟨h4, h5⟩⟩
  split at h
  · rename_i hk1 hk2 hk
    simp only [Bool.and_eq_true, decide_eq_true_eq] at h
    obtain ⟨⟨h1, h2, h3⟩, h4, h5, h6⟩ := h
    exact ⟨by omega, by omega, fun _ => nd h1, fun _ => dr h4, fun hp => by subst hk; simp [psK] at hp⟩
  split at h
  · rename_i hk1 hk2 hk3 hk
    simp only [Bool.and_eq_true, decide_eq_true_eq, Opr.mk.injEq] at h
    obtain ⟨h1, h2⟩ := h
    exact ⟨by omega, by omega, fun _ => nd h1, fun hp => by subst hk; simp [psK] at hp, fun _ => ⟨by omega, by omega⟩⟩
  split at h
  · rename_i hk1 hk2 hk3 hk4 hk
    simp only [Bool.and_eq_true, decide_eq_true_eq] at h
    have := inB_iff.1 h.1
    exact ⟨this.1, this.2, fun hp => by subst hk; simp [psK] at hp, fun hp => by subst hk; simp [psK] at hp, fun hp => by subst hk; simp [psK] at hp⟩
  split at h
  · rename_i hk1 hk2 hk3 hk4 hk5 hk
    simp only [Bool.and_eq_true, decide_eq_true_eq, Opr.mk.injEq] at h
    exact ⟨by omega, by omega, fun hp => by subst hk; simp [psK] at hp, fun hp => by subst hk; simp [psK] at hp, fun hp => by subst hk; simp [psK] at hp⟩
  split at h
  · rename_i hk1 hk2 hk3 hk4 hk5 hk6 hk
    simp only [Bool.and_eq_true, decide_eq_true_eq, Opr.mk.injEq] at h
    exact ⟨by omega, by omega, fun hp => by subst hk; simp [psK] at hp, fun hp => by subst hk; simp [psK] at hp, fun hp => by subst hk; simp [psK] at hp⟩
  · simp at h
theorem ops_at {n : Int} {l : List Opr} {k : Nat} {x : Opr} (h : opsB n l = true) (hx : l[k]? = some x) : okOp x = true := by
  unfold opsB at h
  simp only [Bool.and_eq_true] at h
  have := List.all_eq_true.1 h.2.2 x (List.mem_of_getElem? hx)
  unfold okOpW at this
  simp only [Bool.and_eq_true] at this
  exact this.1
theorem ops_len {n : Int} {l : List Opr} (h : opsB n l = true) : l.length ≤ 1500 := by
  unfold opsB at h
  simp only [Bool.and_eq_true, decide_eq_true_eq] at h
  exact h.2.1

theorem passKind_any (k : Int) (w : World) : Calls Try.prog 46 #[.int .i64 k] w fun e w' => e = .returned (.int .i64 (psK k)) ∧ w = w' := by
  unfold psK
  go_enter Try.func46, Try.ntmps46
  go_wp2
  all_goals go_ret
  all_goals exact ⟨ret_int (by simp_all), rfl⟩
theorem l09Kind_any (x : Opr) (b o : Nat) (w : World) (hc : CellsAt w b o x.cells) : Calls Try.prog 35 #[.pointer (some ⟨b, o, none⟩)] w fun e w' => e = .returned (.int .i64 (psK x.k)) ∧ w = w' := by
  obtain ⟨f0, -⟩ := hc.eight
  clear hc
  unfold psK
  go_enter Try.func35, Try.ntmps35
  go_wp2
  all_goals go_ret
  all_goals exact ⟨ret_int (by simp_all), rfl⟩

end Go.Proofs.Ytolcgopfbbmjgaa
