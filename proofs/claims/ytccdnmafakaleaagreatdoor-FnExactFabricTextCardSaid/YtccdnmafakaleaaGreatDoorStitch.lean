/-
  The small tables of stitches: what ColumnsMade, ColumnsTaken, SymbolOf and MirrorStitch of program and reference return.
-/
import Derived.Test.YtccdnmafakaleaaGreatDoorRows
import Derived.Test.YtccdnmafakaleaaGreatDoorBase
namespace Go.Proofs.YtccdnmafakaleaaGreatDoor
set_option linter.unusedVariables false
set_option linter.unusedSimpArgs false
open Go.RowKit

theorem l00In_any (n lo hi : Int) (w : World) :
    Calls Tryz.prog 34 #[.int .i64 n, .int .i64 lo, .int .i64 hi] w fun e w' => e = .returned (.bool (decide (lo ≤ n) && decide (n ≤ hi))) ∧ w = w' := by
  go_enter Tryz.func34, Tryz.ntmps34
  go_wp2
  all_goals go_ret
  all_goals exact ⟨ret_bool (by simp [*]; try omega), rfl⟩

theorem within_any (n lo hi : Int) (w : World) :
    Calls Tryz.prog 60 #[.int .i64 n, .int .i64 lo, .int .i64 hi] w fun e w' => e = .returned (.bool (decide (lo ≤ n) && decide (n ≤ hi))) ∧ w = w' := by
  go_enter Tryz.func60, Tryz.ntmps60
  go_wp2
  all_goals go_ret
  all_goals exact ⟨ret_bool (by simp [*]; try omega), rfl⟩

def okKind (k : Int) : Bool := decide (1 ≤ k) && decide (k ≤ 11)

theorem okKind_cases {k : Int} (h : okKind k = true) : k = 1 ∨ k = 2 ∨ k = 3 ∨ k = 4 ∨ k = 5 ∨ k = 6 ∨ k = 7 ∨ k = 8 ∨ k = 9 ∨ k = 10 ∨ k = 11 := by
  unfold okKind at h
  simp at h
  omega

def tabl (l : List Int) (d k : Int) : Int := if okKind k = true then l.getD (k - 1).toNat 0 else d
def colMade (k : Int) : Int := tabl [1, 1, 1, 1, 1, 1, 1, 2, 2, 4, 4] (-1) k
def colTaken (k : Int) : Int := tabl [1, 1, 0, 2, 2, 1, 1, 2, 2, 4, 4] (-1) k
def mirrorS (k : Int) : Int := tabl [1, 2, 3, 5, 4, 6, 7, 9, 8, 11, 10] 0 k

theorem tabl_no {l : List Int} {d k : Int} (h : okKind k = false) : tabl l d k = d := by simp [tabl, h]


end Go.Proofs.YtccdnmafakaleaaGreatDoor
