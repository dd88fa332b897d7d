/-
  How many strands events leave: strandsAfter, ValidEvents and StrandsOf of program and reference.
-/
import Derived.Test.YtgkapjjolhnliaaGreatDoorValid
import Derived.Test.YtgkapjjolhnliaaGreatDoorWords
namespace Go.Proofs.YtgkapjjolhnliaaGreatDoor
set_option linter.unusedVariables false
set_option linter.unusedSimpArgs false
open Go.RowKit

theorem aft_bounds {n : Int} {e : Ev} (h0 : 0 ≤ n) (h1 : n ≤ 12) (h : valE n e = true) : 0 ≤ aftE n e ∧ aftE n e ≤ 13 := by
  rw [valE_K] at h
  unfold valK at h
  unfold aftE
  by_cases k2 : e.k = 2
  · simp [k2] at h ⊢; omega
  by_cases k3 : e.k = 3
  · simp [k3] at h ⊢; omega
  by_cases k4 : e.k = 4
  · simp [k4] at h ⊢; omega
  by_cases k5 : e.k = 5
  · simp [k5] at h ⊢; omega
  simp [k2, k3, k4, k5]; omega

theorem ret_int_of {k : IntKind} {a b : Int} (h : a = b) : Ending.returned (.int k a) = .returned (.int k b) := by rw [h]


def cntE : Int → List Ev → Option Int
  | n, [] => some n
  | n, e :: es => if valE n e = true ∧ aftE n e ≤ 12 then cntE (aftE n e) es else none

def cntR (r : Option Int) (e : Ending) : Prop := e = .returned (.tuple #[.int .i64 (r.getD 0), .bool r.isSome])

theorem drop_cnt_no {l : List Ev} {k : Nat} {x : Ev} {n m : Int} (h : cntE n l = cntE m (l.drop k)) (hx : l[k]? = some x) (hv : ¬ (valE m x = true ∧ aftE m x ≤ 12)) : cntE n l = none := by
  rw [h, drop_of_get hx, cntE, if_neg hv]
theorem drop_cnt_yes {l : List Ev} {k : Nat} {x : Ev} {n m : Int} (h : cntE n l = cntE m (l.drop k)) (hx : l[k]? = some x) (hv : valE m x = true) (h2 : aftE m x ≤ 12) : cntE n l = cntE (aftE m x) (l.drop (k + 1)) := by
  rw [h, drop_of_get hx, cntE, if_pos ⟨hv, h2⟩]


end Go.Proofs.YtgkapjjolhnliaaGreatDoor
