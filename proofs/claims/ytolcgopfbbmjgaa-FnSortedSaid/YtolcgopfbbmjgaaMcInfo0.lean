/-
  Is a loop described rightly: isInfo of the program, l07Info of the reference.
-/
import Derived.Test.YtolcgopfbbmjgaaMcSmall
import Derived.Test.YtolcgopfbbmjgaaMcTo
namespace Go.Proofs.Ytolcgopfbbmjgaa
set_option linter.unusedVariables false
set_option linter.unusedSimpArgs false
open Go.RowKit

theorem RdI.take {w : World} {B : Nat} {A : Option Addr} {n c : Nat} {l : List Int} (h : RdI w B (.slice A n c) l) {k : Nat} (hk : k ≤ n) : RdI w B (.slice A k c) (l.take k) := by
  obtain ⟨A', n', c', e, hn, hl, h⟩ := h
  injection e with e1 e2 e3
  subst e1 e2 e3
  refine ⟨A, k, c, rfl, by omega, by unfold Hid; have := hl.out; simp; omega, fun j hj => ?_⟩
  obtain ⟨b, off, x, h1, h2, h3, h4⟩ := h j (by omega)
  exact ⟨b, off, x, h1, h2, by rw [List.getElem?_take, if_pos hj]; exact h3, h4⟩
theorem kindM_cases {k : Int} (h : kindM k = true) : k = 1 ∨ k = 2 ∨ k = 5 := by simpa [kindM] using h
theorem headI_cases (wd : Int) (x : Inf) :
    (inB 1 x.y 4 = false ∧ headI wd x = false) ∨ (inB 1 x.y 4 = true ∧ bedM x.b = false ∧ headI wd x = false) ∨ (inB 1 x.y 4 = true ∧ bedM x.b = true ∧ inB 0 x.p (wd - 1) = false ∧ headI wd x = false) ∨
    (inB 1 x.y 4 = true ∧ bedM x.b = true ∧ inB 0 x.p (wd - 1) = true ∧ dirM x.d = false ∧ headI wd x = false) ∨ (inB 1 x.y 4 = true ∧ bedM x.b = true ∧ inB 0 x.p (wd - 1) = true ∧ dirM x.d = true ∧ headI wd x = true) := by
  unfold headI
  cases inB 1 x.y 4 <;> cases bedM x.b <;> cases inB 0 x.p (wd - 1) <;> cases dirM x.d <;> simp

theorem okInf_kind {wd i : Int} {x : Inf} (h : kindM x.k = false) : okInf wd i x = false := by simp [okInf, h]
theorem okInf_head {wd i : Int} {x : Inf} (h : headI wd x = false) : okInf wd i x = false := by simp [okInf, h]
theorem okInf_len {wd i : Int} {x : Inf} (h : ¬ x.ps.length ≤ 4) : okInf wd i x = false := by unfold okInf; rw [decide_eq_false h]; simp
theorem okInf_rest {wd i : Int} {x : Inf} (h : kindM x.k = true) (h1 : headI wd x = true) (h2 : x.ps.length ≤ 4) : okInf wd i x = (parsB i [] x.ps && tailI x) := by unfold okInf; rw [h, h1, decide_eq_true h2]; simp

end Go.Proofs.Ytolcgopfbbmjgaa
