/-
  What a valid machine is, as plain data.
-/
import Derived.Test.YtolcgopfbbmjgaaMcSmall
import Derived.Test.YtolcgopfbbmjgaaMcApart
import Derived.Test.YtolcgopfbbmjgaaMcLists
namespace Go.Proofs.Ytolcgopfbbmjgaa
set_option linter.unusedVariables false
set_option linter.unusedSimpArgs false
open Go.RowKit

def headM (m : Mc) : Bool := inB 1 m.wd 24 && (inB (-3) m.rk 3 && (decide ((m.fr.length : Int) = m.wd) && (decide ((m.bk.length : Int) = m.wd) && (decide ((m.cs.length : Int) = 4) && decide ((m.ls.length : Int) ≤ 300)))))
def carB (wd : Int) (c : Car) : Bool := inB (-3) c.p (wd + 3) && (c.i || decide (c.p = 0))
def carsB (wd : Int) (l : List Car) : Bool := l.all (carB wd)
def infsB (wd : Int) : Int → List Inf → Bool
  | _, [] => true
  | i, x :: t => okInf wd i x && infsB wd (i + 1) t
def okM (m : Mc) : Bool := headM m && (lens4 m.fr && (lens4 m.bk && (carsB m.wd m.cs && (infsB m.wd 0 m.ls && (risB m.dr && parsB m.ls.length [] (m.fr.flatten ++ (m.bk.flatten ++ m.dr)))))))

theorem RdS.le {α : Type} {cs : α → List Value} {sz : Nat} {w : World} {B : Nat} {v : Value} {l : List α} (h : RdS cs sz w B v l) : l.length ≤ 9223372036854775807 := by
  obtain ⟨A, n, c, rfl, hn, hl, _⟩ := h
  rw [hl.out]; exact hn

theorem cars_next {wd : Int} {l : List Car} {k : Nat} {x : Car} {R rest : Bool} (h : R = (carsB wd (l.drop k) && rest)) (hx : l[k]? = some x) : R = (carB wd x && (carsB wd (l.drop (k + 1)) && rest)) := by
  rw [h, drop_of_get hx]; simp [carsB, Bool.and_assoc]
theorem infs_next {wd : Int} {l : List Inf} {k : Nat} {x : Inf} {R rest : Bool} (h : R = (infsB wd k (l.drop k) && rest)) (hx : l[k]? = some x) : R = (okInf wd k x && (infsB wd ((k : Int) + 1) (l.drop (k + 1)) && rest)) := by
  rw [h, drop_of_get hx, infsB, Bool.and_assoc]
theorem lens_next {l : List (List Int)} {k : Nat} {x : List Int} {R rest : Bool} (h : R = (lens4 (l.drop k) && rest)) (hx : l[k]? = some x) : R = (decide (x.length ≤ 4) && (lens4 (l.drop (k + 1)) && rest)) := by
  rw [h, drop_of_get hx]; simp [lens4, Bool.and_assoc]

/-- The head's questions one after the other, as far as the first that fails. -/
theorem headM_no {m : Mc} (h : headM m = false) :
    (inB 1 m.wd 24 = false) ∨ (inB 1 m.wd 24 = true ∧ inB (-3) m.rk 3 = false) ∨
    (inB 1 m.wd 24 = true ∧ inB (-3) m.rk 3 = true ∧ ((m.fr.length : Int) != m.wd) = true) ∨
    (inB 1 m.wd 24 = true ∧ inB (-3) m.rk 3 = true ∧ ((m.fr.length : Int) != m.wd) = false ∧ ((m.bk.length : Int) != m.wd) = true) ∨
    (inB 1 m.wd 24 = true ∧ inB (-3) m.rk 3 = true ∧ ((m.fr.length : Int) != m.wd) = false ∧ ((m.bk.length : Int) != m.wd) = false ∧ ((m.cs.length : Int) != 4) = true) ∨
    (inB 1 m.wd 24 = true ∧ inB (-3) m.rk 3 = true ∧ ((m.fr.length : Int) != m.wd) = false ∧ ((m.bk.length : Int) != m.wd) = false ∧ ((m.cs.length : Int) != 4) = false ∧ (300 : Int) < (m.ls.length : Int)) := by
  unfold headM at h
  cases h1 : inB 1 m.wd 24
  · exact .inl rfl
  refine .inr ?_
  cases h2 : inB (-3) m.rk 3
  · exact .inl ⟨rfl, rfl⟩
  refine .inr ?_
  by_cases h3 : (m.fr.length : Int) = m.wd
  case neg => exact .inl ⟨rfl, rfl, by simpa using h3⟩
  refine .inr ?_
  by_cases h4 : (m.bk.length : Int) = m.wd
  case neg => exact .inl ⟨rfl, rfl, by simpa using h3, by simpa using h4⟩
  refine .inr ?_
  by_cases h5 : (m.cs.length : Int) = 4
  case neg => exact .inl ⟨rfl, rfl, by simpa using h3, by simpa using h4, by simpa using h5⟩
  refine .inr ⟨rfl, rfl, by simpa using h3, by simpa using h4, by simpa using h5, ?_⟩
  rw [h1, h2, decide_eq_true h3, decide_eq_true h4, decide_eq_true h5] at h
  simp at h
  omega
theorem headM_yes {m : Mc} (h : headM m = true) :
    inB 1 m.wd 24 = true ∧ inB (-3) m.rk 3 = true ∧ ((m.fr.length : Int) != m.wd) = false ∧ ((m.bk.length : Int) != m.wd) = false ∧ ((m.cs.length : Int) != 4) = false ∧ (m.ls.length : Int) ≤ 300 ∧ 1 ≤ m.wd ∧ m.wd ≤ 24 ∧ m.fr.length ≤ 24 ∧ m.bk.length ≤ 24 ∧ m.cs.length = 4 := by
  unfold headM at h
  simp at h
  obtain ⟨h1, h2, h3, h4, h5, h6⟩ := h
  have := inB_iff.1 h1
  exact ⟨h1, h2, by simpa using h3, by simpa using h4, by simp; omega, by omega, by omega, by omega, by omega, by omega, by omega⟩

end Go.Proofs.Ytolcgopfbbmjgaa
