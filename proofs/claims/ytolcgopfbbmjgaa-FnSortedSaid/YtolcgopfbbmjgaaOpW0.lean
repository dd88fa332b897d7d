/-
  A needle, of the reference.
-/
import Derived.Test.YtolcgopfbbmjgaaOpV
import Derived.Test.YtolcgopfbbmjgaaNst
import Derived.Deep.RegionWith
namespace Go.Proofs.Ytolcgopfbbmjgaa
set_option linter.unusedVariables false
set_option linter.unusedSimpArgs false
open Go.RowKit

theorem l01Needle_any (b a : Int) (w : World) : Calls Try.prog 68 #[.agg #[.int .i64 b, .int .i64 a]] w fun e w' => e = .returned (.bool (ndB b a)) ∧ Below w.heap.size w w' := by
  unfold ndB
  have H1 := Lib.hid (fun w' => l01Bed_s b w')
  generalize bedM b = B1 at *
  cases B1
  all_goals
    go_enter Try.func68, Try.ntmps68
    go_wp2_with fail
    refine (H1.out _).mono ?_
    rintro e w1 ⟨rfl, rfl⟩
  · go_wp2
    go_ret
    exact ⟨rfl, (Below.refl _ _).alloc (Nat.le_refl _) _⟩
  · go_wp2_with fail
    refine (l00In_s _ _ _ _).mono ?_
    rintro e w1 ⟨rfl, rfl⟩
    go_wp2
    go_ret
    exact ⟨rfl, (Below.refl _ _).alloc (Nat.le_refl _) _⟩

end Go.Proofs.Ytolcgopfbbmjgaa
