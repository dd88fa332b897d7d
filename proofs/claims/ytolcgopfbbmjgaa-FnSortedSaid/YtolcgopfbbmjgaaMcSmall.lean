/-
  Small questions that program and reference ask of numbers and lists; validity of a loop's description, as plain data.
-/
import Derived.Test.YtolcgopfbbmjgaaMc
import Derived.Test.YtolcgopfbbmjgaaSm0
import Derived.Test.YtolcgopfbbmjgaaWords
import Derived.Test.YtolcgopfbbmjgaaCont
namespace Go.Proofs.Ytolcgopfbbmjgaa
set_option linter.unusedVariables false
set_option linter.unusedSimpArgs false
open Go.RowKit

/-! ### Is a number in a list -/
/-! ### Validity as plain data -/
/-- Numbers from 0 and below n, none among those before it. -/
def parsB (n : Int) : List Int → List Int → Bool
  | _, [] => true
  | pre, x :: t => inB 0 x (n - 1) && (!(pre.contains x) && parsB n (pre ++ [x]) t)
theorem pars_yes {n : Int} {l : List Int} {k : Nat} {x : Int} {R : Bool} (h : R = parsB n (l.take k) (l.drop k)) (hx : l[k]? = some x) (h1 : inB 0 x (n - 1) = true) (h2 : (l.take k).contains x = false) : R = parsB n (l.take (k + 1)) (l.drop (k + 1)) := by
  rw [h, drop_of_get hx, parsB, h1, h2, List.take_add_one, hx]; rfl
theorem pars_no1 {n : Int} {l : List Int} {k : Nat} {x : Int} {R : Bool} (h : R = parsB n (l.take k) (l.drop k)) (hx : l[k]? = some x) (h1 : inB 0 x (n - 1) = false) : R = false := by
  rw [h, drop_of_get hx, parsB, h1]; rfl
theorem pars_no2 {n : Int} {l : List Int} {k : Nat} {x : Int} {R : Bool} (h : R = parsB n (l.take k) (l.drop k)) (hx : l[k]? = some x) (h1 : (l.take k).contains x = true) : R = false := by
  rw [h, drop_of_get hx, parsB, h1]; simp
def kindM (k : Int) : Bool := decide (k = 1 ∨ k = 2 ∨ k = 5)
/-- The head of a loop's description: all but its parents. -/
def headI (wd : Int) (x : Inf) : Bool := inB 1 x.y 4 && (bedM x.b && (inB 0 x.p (wd - 1) && dirM x.d))
def tailI (x : Inf) : Bool := (!(x.k == 2) || decide (x.ps.length = 0)) && (!(x.k == 5) || decide (0 < x.ps.length))
def okInf (wd i : Int) (x : Inf) : Bool := kindM x.k && (headI wd x && (decide (x.ps.length ≤ 4) && (parsB i [] x.ps && tailI x)))

end Go.Proofs.Ytolcgopfbbmjgaa
