/-
  The loops of a carrier: yarn of the program, l11Yarn of the reference.
-/
import Derived.Test.YtolcgopfbbmjgaaMcApart
namespace Go.Proofs.Ytolcgopfbbmjgaa
set_option linter.unusedVariables false
set_option linter.unusedSimpArgs false
open Go.RowKit

def yarnGo (c : Int) : Int → List Inf → List Int
  | _, [] => []
  | i, x :: t => if x.y = c then i :: yarnGo c (i + 1) t else yarnGo c (i + 1) t
theorem yarn_yes {c : Int} {L acc : List Int} {l : List Inf} {k : Nat} {x : Inf} (h : L = acc ++ yarnGo c (k : Int) (l.drop k)) (hx : l[k]? = some x) (hc : x.y = c) : L = (acc ++ [(k : Int)]) ++ yarnGo c ((k + 1 : Nat) : Int) (l.drop (k + 1)) := by
  rw [h, drop_of_get hx, yarnGo, if_pos hc, List.append_assoc]
  rfl
theorem yarn_no {c : Int} {L acc : List Int} {l : List Inf} {k : Nat} {x : Inf} (h : L = acc ++ yarnGo c (k : Int) (l.drop k)) (hx : l[k]? = some x) (hc : ¬ x.y = c) : L = acc ++ yarnGo c ((k + 1 : Nat) : Int) (l.drop (k + 1)) := by
  rw [h, drop_of_get hx, yarnGo, if_neg hc]
  rfl
theorem int_one (n : Int) : ∀ u ∈ [Value.int .i64 n], u.oneCell' = true := by
  intro u hu
  simp at hu
  subst hu
  rfl
theorem vI_snoc (acc : List Int) (n : Int) : vI (acc ++ [n]) = vI acc ++ [.int .i64 n] := by simp [vI]



end Go.Proofs.Ytolcgopfbbmjgaa
