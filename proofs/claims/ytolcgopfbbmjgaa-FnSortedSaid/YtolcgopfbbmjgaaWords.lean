/-
  Plain words that the walks' contracts use: searches, sums.
-/
import Derived.Test.YtolcgopfbbmjgaaMem
namespace Go.Proofs.Ytolcgopfbbmjgaa
set_option linter.unusedVariables false
set_option linter.unusedSimpArgs false
open Go.RowKit

/-- The first place with p, -1 if there is none. -/
def idxFrom {α : Type} (p : α → Bool) : Nat → List α → Int
  | _, [] => -1
  | k, x :: xs => if p x = true then (k : Int) else idxFrom p (k + 1) xs
def idxOf {α : Type} (p : α → Bool) (l : List α) : Int := idxFrom p 0 l

theorem idxFrom_any {α : Type} (p : α → Bool) (l : List α) : ∀ k, (0 ≤ idxFrom p k l) = (l.any p = true) := by
  induction l with
  | nil => intro k; simp [idxFrom]
  | cons x xs ih =>
    intro k
    by_cases h : p x = true
    · simp [idxFrom, h]
    · simp [idxFrom, h, ih]
theorem idxOf_any {α : Type} (p : α → Bool) (l : List α) : (0 ≤ idxOf p l) = (l.any p = true) := idxFrom_any p l 0

/-- A sum as Go reckons it. -/
def sumW (f : Int → Int) : Int → List Int → Int
  | acc, [] => acc
  | acc, x :: xs => sumW f (wrap64 (acc + f x)) xs

end Go.Proofs.Ytolcgopfbbmjgaa
