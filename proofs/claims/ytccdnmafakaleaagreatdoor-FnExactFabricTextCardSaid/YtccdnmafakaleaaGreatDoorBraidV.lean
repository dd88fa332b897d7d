/-
  Valid braids: ValidBraid and l03Ok.
-/
import Derived.Test.YtccdnmafakaleaaGreatDoorBraid
import Derived.Test.YtccdnmafakaleaaGreatDoorStitch
namespace Go.Proofs.YtccdnmafakaleaaGreatDoor
set_option linter.unusedVariables false
set_option linter.unusedSimpArgs false
open Go.RowKit

/- slices.IndexFunc and slices.ContainsFunc over []int64 at the closure impl.areLetters$1 with one captured variable: letter name · slices.IndexFunc[[]int64,int64], slices.ContainsFunc[[]int64,int64] the instances -/


def badL (n k : Int) : Bool := decide (k = 0) || !(decide (1 - n ≤ k) && decide (k ≤ n - 1))
def okBr (b : Br) : Bool := (decide (0 ≤ b.n) && decide (b.n ≤ 12)) && (decide (b.w.length ≤ 40) && !(b.w.any (badL b.n)))




end Go.Proofs.YtccdnmafakaleaaGreatDoor
