/-
  StitchesOf of the reference and of the program.
-/
import Derived.Test.YtccdnmafakaleaaGreatDoorEv
import Derived.Test.YtccdnmafakaleaaGreatDoorWords
namespace Go.Proofs.YtccdnmafakaleaaGreatDoor
set_option linter.unusedVariables false
set_option linter.unusedSimpArgs false
open Go.RowKit

def isSt (e : Ev) : Bool := e.k != 1
def stOf (l : List Ev) : List Ev := l.filter isSt

theorem st_keep {l acc : List Ev} {k : Nat} {x : Ev} (h : stOf l = acc ++ stOf (l.drop k)) (hx : l[k]? = some x) (hk : isSt x = true) : stOf l = (acc ++ [x]) ++ stOf (l.drop (k + 1)) := by
  rw [h, drop_of_get hx, List.append_assoc]
  congr 1
  simp [stOf, List.filter_cons, hk]
theorem st_drop {l acc : List Ev} {k : Nat} {x : Ev} (h : stOf l = acc ++ stOf (l.drop k)) (hx : l[k]? = some x) (hk : isSt x = false) : stOf l = acc ++ stOf (l.drop (k + 1)) := by
  rw [h, drop_of_get hx]
  congr 1
  simp [stOf, List.filter_cons, hk]
theorem vE_snoc (acc : List Ev) (x : Ev) : vE (acc ++ [x]) = vE acc ++ x.cells := by simp [vE, vS]

theorem cells_one (x : Ev) : ∀ u ∈ x.cells, u.oneCell' = true := by
  intro u hu
  simp at hu
  rcases hu with rfl | rfl | rfl | rfl | rfl | rfl <;> rfl


end Go.Proofs.YtccdnmafakaleaaGreatDoor
