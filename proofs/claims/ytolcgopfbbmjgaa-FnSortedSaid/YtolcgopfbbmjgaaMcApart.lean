/-
  The loops on a bed as one list (l07Lists of the reference); areApart of the program.
-/
import Derived.Test.YtolcgopfbbmjgaaMcConcat
import Derived.Test.YtolcgopfbbmjgaaMcSmall
import Derived.Deep.RegionHeld3
namespace Go.Proofs.Ytolcgopfbbmjgaa
set_option linter.unusedVariables false
set_option linter.unusedSimpArgs false
open Go.RowKit


def lens4 (l : List (List Int)) : Bool := l.all fun x => decide (x.length ≤ 4)
def flatOf (l : List (List Int)) : List Int := if lens4 l = true then l.flatten else []
theorem lens4_next {l : List (List Int)} {k : Nat} {x : List Int} {R : Bool} (h : R = lens4 (l.drop k)) (hx : l[k]? = some x) : R = (decide (x.length ≤ 4) && lens4 (l.drop (k + 1))) := by
  rw [h, drop_of_get hx]; rfl
theorem take_flat1 (l : List (List Int)) (k : Nat) {x : List Int} (h : l[k]? = some x) : (l.take (k + 1)).flatten = (l.take k).flatten ++ x := by
  rw [List.take_add_one, h]; simp


/-! ### areApart -/
theorem info_bool : (Try.prog.info? 4).map (fun i => (i.zero, i.size, i.bytes)) = some (some (.bool false), 1, 1) := by kernel_rfl

/-- What a set of marks holds behind one more. -/
theorem seen_set {f : Nat → Value} {pre : List Int} {n q : Nat} (h : ∀ i, i < n → f i = .bool (pre.contains (i : Int))) : ∀ i, i < n → (fun j => if j = q then Value.bool true else f j) i = .bool ((pre ++ [(q : Int)]).contains (i : Int)) := by
  intro i hi
  show (if i = q then Value.bool true else f i) = _
  by_cases hiq : i = q
  · subst hiq
    rw [if_pos rfl]
    congr 1
    simp
  · rw [if_neg hiq, h i hi]
    congr 1
    rw [Bool.eq_iff_iff]
    simp
    intro h'
    omega
theorem pars_flat_yes {n : Int} {pre rest : List Int} {x : List Int} {j : Nat} {y : Int} {R : Bool} (h : R = parsB n pre (x.drop j ++ rest)) (hy : x[j]? = some y) (h1 : inB 0 y (n - 1) = true) (h2 : pre.contains y = false) : R = parsB n (pre ++ [y]) (x.drop (j + 1) ++ rest) := by
  rw [h, drop_of_get hy, List.cons_append, parsB, h1, h2]; rfl
theorem pars_flat_no1 {n : Int} {pre rest : List Int} {x : List Int} {j : Nat} {y : Int} {R : Bool} (h : R = parsB n pre (x.drop j ++ rest)) (hy : x[j]? = some y) (h1 : inB 0 y (n - 1) = false) : R = false := by
  rw [h, drop_of_get hy, List.cons_append, parsB, h1]; rfl
theorem pars_flat_no2 {n : Int} {pre rest : List Int} {x : List Int} {j : Nat} {y : Int} {R : Bool} (h : R = parsB n pre (x.drop j ++ rest)) (hy : x[j]? = some y) (h2 : pre.contains y = true) : R = false := by
  rw [h, drop_of_get hy, List.cons_append, parsB, h2]; simp


end Go.Proofs.Ytolcgopfbbmjgaa
