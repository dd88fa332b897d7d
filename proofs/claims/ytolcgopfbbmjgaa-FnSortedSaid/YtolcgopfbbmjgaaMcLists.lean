/-
  slices.Concat at slices of slices; the loops on a bed as one list (l07Lists); numbers that rise (l00Rises).
-/
import Derived.Test.YtolcgopfbbmjgaaMcInfo0
import Derived.Test.YtolcgopfbbmjgaaAppend
import Derived.Test.YtolcgopfbbmjgaaOwn
namespace Go.Proofs.Ytolcgopfbbmjgaa
set_option linter.unusedVariables false
set_option linter.unusedSimpArgs false
open Go.RowKit

def risB : List Int → Bool
  | a :: b :: t => decide (a < b) && risB (b :: t)
  | _ => true
def rngB (lo hi : Int) (l : List Int) : Bool := l.all fun x => inB lo x hi

/-- Rising from the element before place k on. -/
def risAt (l : List Int) (k : Nat) : Bool := if k = 0 then risB l else risB (l.drop (k - 1))
theorem risAt_zero (l : List Int) : risAt l 0 = risB l := rfl
theorem risAt_one {l : List Int} {x : Int} (hx : l[0]? = some x) : risAt l 0 = risAt l 1 := by
  unfold risAt; simp
theorem risAt_next {l : List Int} {k : Nat} {x y : Int} (h0 : 0 < k) (hx : l[k - 1]? = some x) (hy : l[k]? = some y) : risAt l k = (decide (x < y) && risAt l (k + 1)) := by
  unfold risAt
  rw [if_neg (by omega), if_neg (by omega), drop_of_get hx, show k - 1 + 1 = k by omega, drop_of_get hy, show k + 1 - 1 = k by omega, drop_of_get hy, risB]
theorem risAt_end {l : List Int} {k : Nat} (h : l.length ≤ k) : risAt l k = true := by
  unfold risAt
  by_cases h0 : k = 0
  · rw [if_pos h0]
    have : l = [] := List.eq_nil_of_length_eq_zero (by omega)
    rw [this]; rfl
  · rw [if_neg h0]
    have hl : (l.drop (k - 1)).length ≤ 1 := by simp; omega
    match hm : l.drop (k - 1), hl with
    | [], _ => rfl
    | [a], _ => rfl


end Go.Proofs.Ytolcgopfbbmjgaa
