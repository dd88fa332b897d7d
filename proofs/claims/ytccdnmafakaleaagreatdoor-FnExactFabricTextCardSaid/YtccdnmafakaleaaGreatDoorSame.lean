/-
  SameEvents of program and reference, the library's slices.Equal at events, and the laws' count of events.
-/
import Derived.Test.YtccdnmafakaleaaGreatDoorEv
import Derived.Test.YtccdnmafakaleaaGreatDoorWords
import Derived.Test.YtccdnmafakaleaaGreatDoorSz
namespace Go.Proofs.YtccdnmafakaleaaGreatDoor
set_option linter.unusedVariables false
set_option linter.unusedSimpArgs false
open Go.RowKit

/- szTS: szEventS theorem's name · laws.szEventS function · RdE the reading's predicate · Ev element type -/
theorem szEventS_any (v : Value) (l : List Ev) (left : Int) (w : World) (B : Nat) (hl : RdE w B v l) (h0 : 0 ≤ left) (h1 : left ≤ 1048576) :
    Calls Tryz.prog 4 #[v, .int .i64 left] w fun e w' => e = .returned (.int .i64 (szOf left l.length)) ∧ w = w' := by
  obtain ⟨A, n, c, rfl, hln, hl, gl⟩ := hl
  rw [hl.out]
  clear gl
  by_cases h : (n : Int) ≤ left
  · have hs : szOf left n = left - n := by simp [szOf, h]
    have HS := Lib.hid hs
    clear hs
    go_enter Tryz.func4, Tryz.ntmps4
    go_wp2
    go_ret
    exact ⟨ret_int HS.out.symm, rfl⟩
  · have hs : szOf left n = -1 := by simp [szOf, h]
    have HS := Lib.hid hs
    clear hs
    go_enter Tryz.func4, Tryz.ntmps4
    go_wp2
    go_ret
    exact ⟨ret_int HS.out.symm, rfl⟩


end Go.Proofs.YtccdnmafakaleaaGreatDoor
