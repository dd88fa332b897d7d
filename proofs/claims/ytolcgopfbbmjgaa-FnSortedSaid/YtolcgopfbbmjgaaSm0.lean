/-
  Small questions that program and reference ask of numbers.
-/
import Derived.Test.YtolcgopfbbmjgaaRows
import Derived.Test.YtolcgopfbbmjgaaBase
import Derived.Test.YtolcgopfbbmjgaaWords
namespace Go.Proofs.Ytolcgopfbbmjgaa
set_option linter.unusedVariables false
set_option linter.unusedSimpArgs false
open Go.RowKit

def inB (lo n hi : Int) : Bool := decide (lo ≤ n) && decide (n ≤ hi)
def bedM (b : Int) : Bool := decide (b = 1 ∨ b = 2)
def dirM (d : Int) : Bool := decide (d = 1 ∨ d = -1)
theorem inB_iff {lo n hi : Int} : inB lo n hi = true ↔ lo ≤ n ∧ n ≤ hi := by simp [inB]

/-- What a question gives that makes nothing that is seen. -/
def Says (w : World) (b : Bool) (e : Ending) (w' : World) : Prop := e = .returned (.bool b) ∧ Below w.heap.size w w'

theorem within_s (n lo hi : Int) (w : World) : Calls Try.prog 58 #[.int .i64 n, .int .i64 lo, .int .i64 hi] w fun e w' => e = .returned (.bool (inB lo n hi)) ∧ w = w' := by
  unfold inB
  go_enter Try.func58, Try.ntmps58
  go_wp2
  all_goals go_ret
  all_goals exact ⟨ret_bool (by simp [*]; try omega), rfl⟩
theorem within_b (n lo hi : Int) (w : World) : Calls Try.prog 58 #[.int .i64 n, .int .i64 lo, .int .i64 hi] w fun e w' => e = .returned (.bool (inB lo n hi)) ∧ Below w.heap.size w w' :=
  (within_s n lo hi w).mono fun e w' ⟨h1, h2⟩ => ⟨h1, by rw [h2]; exact Below.refl _ _⟩
theorem l00In_s (n lo hi : Int) (w : World) : Calls Try.prog 49 #[.int .i64 n, .int .i64 lo, .int .i64 hi] w fun e w' => e = .returned (.bool (inB lo n hi)) ∧ w = w' := by
  unfold inB
  go_enter Try.func49, Try.ntmps49
  go_wp2
  all_goals go_ret
  all_goals exact ⟨ret_bool (by simp [*]; try omega), rfl⟩
theorem l00In_b (n lo hi : Int) (w : World) : Calls Try.prog 49 #[.int .i64 n, .int .i64 lo, .int .i64 hi] w fun e w' => e = .returned (.bool (inB lo n hi)) ∧ Below w.heap.size w w' :=
  (l00In_s n lo hi w).mono fun e w' ⟨h1, h2⟩ => ⟨h1, by rw [h2]; exact Below.refl _ _⟩
theorem isRack_s (b : Int) (w : World) : Calls Try.prog 77 #[.int .i64 b] w fun e w' => e = .returned (.bool (inB (-3) b 3)) ∧ w = w' := by
  go_enter Try.func77, Try.ntmps77
  go_wp2_with fail
  refine (within_s _ _ _ _).mono ?_
  rintro e w1 ⟨rfl, rfl⟩
  go_wp2
  go_ret
  exact ⟨rfl, rfl⟩
theorem isRack_b (b : Int) (w : World) : Calls Try.prog 77 #[.int .i64 b] w fun e w' => e = .returned (.bool (inB (-3) b 3)) ∧ Below w.heap.size w w' :=
  (isRack_s b w).mono fun e w' ⟨h1, h2⟩ => ⟨h1, by rw [h2]; exact Below.refl _ _⟩
theorem isCarrier_s (b : Int) (w : World) : Calls Try.prog 75 #[.int .i64 b] w fun e w' => e = .returned (.bool (inB 1 b 4)) ∧ w = w' := by
  go_enter Try.func75, Try.ntmps75
  go_wp2_with fail
  refine (within_s _ _ _ _).mono ?_
  rintro e w1 ⟨rfl, rfl⟩
  go_wp2
  go_ret
  exact ⟨rfl, rfl⟩
theorem isCarrier_b (b : Int) (w : World) : Calls Try.prog 75 #[.int .i64 b] w fun e w' => e = .returned (.bool (inB 1 b 4)) ∧ Below w.heap.size w w' :=
  (isCarrier_s b w).mono fun e w' ⟨h1, h2⟩ => ⟨h1, by rw [h2]; exact Below.refl _ _⟩
theorem l07Yarn_s (b : Int) (w : World) : Calls Try.prog 69 #[.int .i64 b] w fun e w' => e = .returned (.bool (inB 1 b 4)) ∧ w = w' := by
  go_enter Try.func69, Try.ntmps69
  go_wp2_with fail
  refine (l00In_s _ _ _ _).mono ?_
  rintro e w1 ⟨rfl, rfl⟩
  go_wp2
  go_ret
  exact ⟨rfl, rfl⟩
theorem l07Yarn_b (b : Int) (w : World) : Calls Try.prog 69 #[.int .i64 b] w fun e w' => e = .returned (.bool (inB 1 b 4)) ∧ Below w.heap.size w w' :=
  (l07Yarn_s b w).mono fun e w' ⟨h1, h2⟩ => ⟨h1, by rw [h2]; exact Below.refl _ _⟩
theorem isBed_s (b : Int) (w : World) : Calls Try.prog 87 #[.int .i64 b] w fun e w' => e = .returned (.bool (bedM b)) ∧ w = w' := by
  go_enter Try.func87, Try.ntmps87
  go_wp2
  all_goals go_ret
  all_goals exact ⟨ret_bool (by rw [Bool.eq_iff_iff]; simp [bedM]; try simp_all), rfl⟩
theorem isBed_b (b : Int) (w : World) : Calls Try.prog 87 #[.int .i64 b] w fun e w' => e = .returned (.bool (bedM b)) ∧ Below w.heap.size w w' :=
  (isBed_s b w).mono fun e w' ⟨h1, h2⟩ => ⟨h1, by rw [h2]; exact Below.refl _ _⟩
theorem isDirection_s (b : Int) (w : World) : Calls Try.prog 73 #[.int .i64 b] w fun e w' => e = .returned (.bool (dirM b)) ∧ w = w' := by
  go_enter Try.func73, Try.ntmps73
  go_wp2
  all_goals go_ret
  all_goals exact ⟨ret_bool (by rw [Bool.eq_iff_iff]; simp [dirM]; try simp_all), rfl⟩
theorem isDirection_b (b : Int) (w : World) : Calls Try.prog 73 #[.int .i64 b] w fun e w' => e = .returned (.bool (dirM b)) ∧ Below w.heap.size w w' :=
  (isDirection_s b w).mono fun e w' ⟨h1, h2⟩ => ⟨h1, by rw [h2]; exact Below.refl _ _⟩
theorem l07Dir_s (b : Int) (w : World) : Calls Try.prog 67 #[.int .i64 b] w fun e w' => e = .returned (.bool (dirM b)) ∧ w = w' := by
  go_enter Try.func67, Try.ntmps67
  go_wp2
  all_goals go_ret
  all_goals exact ⟨ret_bool (by rw [Bool.eq_iff_iff]; simp [dirM]; try simp_all), rfl⟩
theorem l07Dir_b (b : Int) (w : World) : Calls Try.prog 67 #[.int .i64 b] w fun e w' => e = .returned (.bool (dirM b)) ∧ Below w.heap.size w w' :=
  (l07Dir_s b w).mono fun e w' ⟨h1, h2⟩ => ⟨h1, by rw [h2]; exact Below.refl _ _⟩
theorem l01Bed_s (b : Int) (w : World) : Calls Try.prog 86 #[.int .i64 b] w fun e w' => e = .returned (.bool (bedM b)) ∧ w = w' := by
  go_enter Try.func86, Try.ntmps86
  go_wp2_with fail
  refine (l00In_s _ _ _ _).mono ?_
  rintro e w1 ⟨rfl, rfl⟩
  go_wp2
  go_ret
  exact ⟨ret_bool (by rw [Bool.eq_iff_iff]; simp [bedM, inB]; omega), rfl⟩
theorem l01Bed_b (b : Int) (w : World) : Calls Try.prog 86 #[.int .i64 b] w fun e w' => e = .returned (.bool (bedM b)) ∧ Below w.heap.size w w' :=
  (l01Bed_s b w).mono fun e w' ⟨h1, h2⟩ => ⟨h1, by rw [h2]; exact Below.refl _ _⟩


end Go.Proofs.Ytolcgopfbbmjgaa
