/-
  Small questions that program and reference ask of numbers.
-/
import Derived.Test.YthhpjgdeehcgjaaGreatRows
import Derived.Test.YthhpjgdeehcgjaaGreatBase
import Derived.Test.YthhpjgdeehcgjaaGreatWords
namespace Go.Proofs.YthhpjgdeehcgjaaGreat
set_option linter.unusedVariables false
set_option linter.unusedSimpArgs false
open Go.RowKit

def inB (lo n hi : Int) : Bool := decide (lo ≤ n) && decide (n ≤ hi)
def bedM (b : Int) : Bool := decide (b = 1 ∨ b = 2)
def dirM (d : Int) : Bool := decide (d = 1 ∨ d = -1)
theorem inB_iff {lo n hi : Int} : inB lo n hi = true ↔ lo ≤ n ∧ n ≤ hi := by simp [inB]

theorem within_s (n lo hi : Int) (w : World) : Calls Tryz.prog 36 #[.int .i64 n, .int .i64 lo, .int .i64 hi] w fun e w' => e = .returned (.bool (inB lo n hi)) ∧ w = w' := by
  unfold inB
  go_enter Tryz.func36, Tryz.ntmps36
  go_wp2
  all_goals go_ret
  all_goals exact ⟨ret_bool (by simp [*]; try omega), rfl⟩
theorem within_b (n lo hi : Int) (w : World) : Calls Tryz.prog 36 #[.int .i64 n, .int .i64 lo, .int .i64 hi] w fun e w' => e = .returned (.bool (inB lo n hi)) ∧ Below w.heap.size w w' :=
  (within_s n lo hi w).mono fun e w' ⟨h1, h2⟩ => ⟨h1, by rw [h2]; exact Below.refl _ _⟩
theorem l00In_s (n lo hi : Int) (w : World) : Calls Tryz.prog 21 #[.int .i64 n, .int .i64 lo, .int .i64 hi] w fun e w' => e = .returned (.bool (inB lo n hi)) ∧ w = w' := by
  unfold inB
  go_enter Tryz.func21, Tryz.ntmps21
  go_wp2
  all_goals go_ret
  all_goals exact ⟨ret_bool (by simp [*]; try omega), rfl⟩
theorem l00In_b (n lo hi : Int) (w : World) : Calls Tryz.prog 21 #[.int .i64 n, .int .i64 lo, .int .i64 hi] w fun e w' => e = .returned (.bool (inB lo n hi)) ∧ Below w.heap.size w w' :=
  (l00In_s n lo hi w).mono fun e w' ⟨h1, h2⟩ => ⟨h1, by rw [h2]; exact Below.refl _ _⟩
theorem isRack_s (b : Int) (w : World) : Calls Tryz.prog 43 #[.int .i64 b] w fun e w' => e = .returned (.bool (inB (-3) b 3)) ∧ w = w' := by
  go_enter Tryz.func43, Tryz.ntmps43
  go_wp2_with fail
  refine (within_s _ _ _ _).mono ?_
  rintro e w1 ⟨rfl, rfl⟩
  go_wp2
  go_ret
  exact ⟨rfl, rfl⟩
theorem isCarrier_s (b : Int) (w : World) : Calls Tryz.prog 49 #[.int .i64 b] w fun e w' => e = .returned (.bool (inB 1 b 4)) ∧ w = w' := by
  go_enter Tryz.func49, Tryz.ntmps49
  go_wp2_with fail
  refine (within_s _ _ _ _).mono ?_
  rintro e w1 ⟨rfl, rfl⟩
  go_wp2
  go_ret
  exact ⟨rfl, rfl⟩
theorem isCarrier_b (b : Int) (w : World) : Calls Tryz.prog 49 #[.int .i64 b] w fun e w' => e = .returned (.bool (inB 1 b 4)) ∧ Below w.heap.size w w' :=
  (isCarrier_s b w).mono fun e w' ⟨h1, h2⟩ => ⟨h1, by rw [h2]; exact Below.refl _ _⟩
theorem l07Yarn_s (b : Int) (w : World) : Calls Tryz.prog 63 #[.int .i64 b] w fun e w' => e = .returned (.bool (inB 1 b 4)) ∧ w = w' := by
  go_enter Tryz.func63, Tryz.ntmps63
  go_wp2_with fail
  refine (l00In_s _ _ _ _).mono ?_
  rintro e w1 ⟨rfl, rfl⟩
  go_wp2
  go_ret
  exact ⟨rfl, rfl⟩
theorem l07Yarn_b (b : Int) (w : World) : Calls Tryz.prog 63 #[.int .i64 b] w fun e w' => e = .returned (.bool (inB 1 b 4)) ∧ Below w.heap.size w w' :=
  (l07Yarn_s b w).mono fun e w' ⟨h1, h2⟩ => ⟨h1, by rw [h2]; exact Below.refl _ _⟩
theorem isBed_s (b : Int) (w : World) : Calls Tryz.prog 88 #[.int .i64 b] w fun e w' => e = .returned (.bool (bedM b)) ∧ w = w' := by
  go_enter Tryz.func88, Tryz.ntmps88
  go_wp2
  all_goals go_ret
  all_goals exact ⟨ret_bool (by rw [Bool.eq_iff_iff]; simp [bedM]; try simp_all), rfl⟩
theorem isBed_b (b : Int) (w : World) : Calls Tryz.prog 88 #[.int .i64 b] w fun e w' => e = .returned (.bool (bedM b)) ∧ Below w.heap.size w w' :=
  (isBed_s b w).mono fun e w' ⟨h1, h2⟩ => ⟨h1, by rw [h2]; exact Below.refl _ _⟩
theorem isDirection_s (b : Int) (w : World) : Calls Tryz.prog 47 #[.int .i64 b] w fun e w' => e = .returned (.bool (dirM b)) ∧ w = w' := by
  go_enter Tryz.func47, Tryz.ntmps47
  go_wp2
  all_goals go_ret
  all_goals exact ⟨ret_bool (by rw [Bool.eq_iff_iff]; simp [dirM]; try simp_all), rfl⟩
theorem isDirection_b (b : Int) (w : World) : Calls Tryz.prog 47 #[.int .i64 b] w fun e w' => e = .returned (.bool (dirM b)) ∧ Below w.heap.size w w' :=
  (isDirection_s b w).mono fun e w' ⟨h1, h2⟩ => ⟨h1, by rw [h2]; exact Below.refl _ _⟩
theorem l07Dir_s (b : Int) (w : World) : Calls Tryz.prog 61 #[.int .i64 b] w fun e w' => e = .returned (.bool (dirM b)) ∧ w = w' := by
  go_enter Tryz.func61, Tryz.ntmps61
  go_wp2
  all_goals go_ret
  all_goals exact ⟨ret_bool (by rw [Bool.eq_iff_iff]; simp [dirM]; try simp_all), rfl⟩
theorem l07Dir_b (b : Int) (w : World) : Calls Tryz.prog 61 #[.int .i64 b] w fun e w' => e = .returned (.bool (dirM b)) ∧ Below w.heap.size w w' :=
  (l07Dir_s b w).mono fun e w' ⟨h1, h2⟩ => ⟨h1, by rw [h2]; exact Below.refl _ _⟩
theorem l01Bed_s (b : Int) (w : World) : Calls Tryz.prog 93 #[.int .i64 b] w fun e w' => e = .returned (.bool (bedM b)) ∧ w = w' := by
  go_enter Tryz.func93, Tryz.ntmps93
  go_wp2_with fail
  refine (l00In_s _ _ _ _).mono ?_
  rintro e w1 ⟨rfl, rfl⟩
  go_wp2
  go_ret
  exact ⟨ret_bool (by rw [Bool.eq_iff_iff]; simp [bedM, inB]; omega), rfl⟩
end Go.Proofs.YthhpjgdeehcgjaaGreat
