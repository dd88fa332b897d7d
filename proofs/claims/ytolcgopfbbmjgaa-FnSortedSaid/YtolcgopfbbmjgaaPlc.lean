/-
  A needle's place, of program and reference.
-/
import Derived.Test.YtolcgopfbbmjgaaSm0
namespace Go.Proofs.Ytolcgopfbbmjgaa
set_option linter.unusedVariables false
set_option linter.unusedSimpArgs false
open Go.RowKit

/-- A needle's place. -/
def plc (b a r : Int) : Int := if b = 2 then a + r else a
theorem place_any (b a r : Int) (h0 : -100 ≤ a) (h1 : a ≤ 100) (h2 : -100 ≤ r) (h3 : r ≤ 100) (w : World) : Calls Try.prog 43 #[.agg #[.int .i64 b, .int .i64 a], .int .i64 r] w fun e w' => e = .returned (.int .i64 (plc b a r)) ∧ Below w.heap.size w w' := by
  unfold plc
  by_cases hb : b = 2
  · subst hb
    go_enter Try.func43, Try.ntmps43
    go_wp2
    go_ret
    exact ⟨ret_int (by simp), (Below.refl _ _).alloc (Nat.le_refl _) _⟩
  · have h2 : (b == 2) = false := by simpa using hb
    rw [if_neg hb]
    clear hb
    go_enter Try.func43, Try.ntmps43
    go_wp2
    go_ret
    exact ⟨rfl, (Below.refl _ _).alloc (Nat.le_refl _) _⟩
theorem l07Place_any (b a r : Int) (h0 : -100 ≤ a) (h1 : a ≤ 100) (h2 : -100 ≤ r) (h3 : r ≤ 100) (w : World) : Calls Try.prog 21 #[.agg #[.int .i64 b, .int .i64 a], .int .i64 r] w fun e w' => e = .returned (.int .i64 (plc b a r)) ∧ Below w.heap.size w w' := by
  unfold plc
  by_cases hb : b = 2
  · subst hb
    go_enter Try.func21, Try.ntmps21
    go_wp2
    go_ret
    exact ⟨ret_int (by simp), (Below.refl _ _).alloc (Nat.le_refl _) _⟩
  · have h2 : (b == 2) = false := by simpa using hb
    rw [if_neg hb]
    clear hb
    go_enter Try.func21, Try.ntmps21
    go_wp2
    go_ret
    exact ⟨rfl, (Below.refl _ _).alloc (Nat.le_refl _) _⟩

end Go.Proofs.Ytolcgopfbbmjgaa
