/-
  The reference's l10Event: what it says of one event.
-/
import Derived.Test.YtccdnmafakaleaaGreatDoorStrands
namespace Go.Proofs.YtccdnmafakaleaaGreatDoor
set_option linter.unusedVariables false
set_option linter.unusedSimpArgs false
open Go.RowKit

/-- What l10Event returns. -/
def EvRes (n : Int) (e : Ev) (w : World) (x : Ending) (w' : World) : Prop := ∃ m, x = .returned (.tuple #[.int .i64 m, .bool (valE n e)]) ∧ (valE n e = true → m = aftE n e) ∧ Below w.heap.size w w'

theorem evresB {n : Int} {e : Ev} {w w' : World} {m : Int} {b : Bool} (hb : b = valE n e) (h : valE n e = true → m = aftE n e) (hw : Below w.heap.size w w') : EvRes n e w (.returned (.tuple #[.int .i64 m, .bool b])) w' := ⟨m, by rw [hb], h, hw⟩
theorem evres_no {n : Int} {e : Ev} {w w' : World} {m : Int} (hb : valE n e = false) (hw : Below w.heap.size w w') : EvRes n e w (.returned (.tuple #[.int .i64 m, .bool false])) w' := ⟨m, by rw [hb], fun h => by (rw [hb] at h; cases h), hw⟩

theorem evres_out {n : Int} {e : Ev} (h : 0 ≤ n ∧ n ≤ 12) (hp : ¬ (0 ≤ e.p ∧ e.p ≤ n)) : valE n e = false := by
  rw [Bool.eq_false_iff, valE_K]
  intro hv
  unfold valK at hv
  by_cases k1 : e.k = 1
  · simp [k1] at hv; omega
  by_cases k2 : e.k = 2
  · simp [k2] at hv; omega
  by_cases k3 : e.k = 3
  · simp [k3] at hv; omega
  by_cases k4 : e.k = 4
  · simp [k4] at hv; omega
  by_cases k5 : e.k = 5
  · simp [k5] at hv
    split at hv <;> (try simp at hv) <;> omega
  simp [k1, k2, k3, k4, k5] at hv

theorem l00In_yes {n lo hi : Int} (h : lo ≤ n ∧ n ≤ hi) (w : World) : Calls Tryz.prog 34 #[.int .i64 n, .int .i64 lo, .int .i64 hi] w fun e w' => e = .returned (.bool true) ∧ Below w.heap.size w w' :=
  (l00In_any n lo hi w).mono fun e w' ⟨h1, h2⟩ => ⟨by rw [h1]; simp [h], by rw [h2]; exact Below.refl _ _⟩
theorem l00In_no {n lo hi : Int} (h : ¬ (lo ≤ n ∧ n ≤ hi)) (w : World) : Calls Tryz.prog 34 #[.int .i64 n, .int .i64 lo, .int .i64 hi] w fun e w' => e = .returned (.bool false) ∧ Below w.heap.size w w' :=
  (l00In_any n lo hi w).mono fun e w' ⟨h1, h2⟩ => ⟨by rw [h1]; congr 1; congr 1; rw [Bool.eq_false_iff]; simpa using h, by rw [h2]; exact Below.refl _ _⟩

theorem sp_cases (b y d : Int) :
    ((b == 0) = false ∧ Hid (bedB b = false) ∧ Hid (stit3 b y d = false) ∧ Hid (plainB b y d = false)) ∨
    ((b == 0) = false ∧ Hid (bedB b = true) ∧ Hid (yarnB y = false) ∧ Hid (stit3 b y d = false) ∧ Hid (plainB b y d = false)) ∨
    ((b == 0) = false ∧ Hid (bedB b = true) ∧ Hid (yarnB y = true) ∧ Hid (dirB d = false) ∧ Hid (stit3 b y d = false) ∧ Hid (plainB b y d = false)) ∨
    ((b == 0) = false ∧ Hid (bedB b = true) ∧ Hid (yarnB y = true) ∧ Hid (dirB d = true) ∧ Hid (stit3 b y d = true) ∧ Hid (plainB b y d = false)) ∨
    ((b == 0) = true ∧ Hid (bedB b = false) ∧ (y == 0) = false ∧ Hid (stit3 b y d = false) ∧ Hid (plainB b y d = false)) ∨
    ((b == 0) = true ∧ Hid (bedB b = false) ∧ (y == 0) = true ∧ (d == 0) = false ∧ Hid (stit3 b y d = false) ∧ Hid (plainB b y d = false)) ∨
    ((b == 0) = true ∧ Hid (bedB b = false) ∧ (y == 0) = true ∧ (d == 0) = true ∧ Hid (stit3 b y d = false) ∧ Hid (plainB b y d = true)) := by
  unfold Hid plainB stit3
  by_cases hb : b = 0
  · subst hb
    have : bedB 0 = false := by decide
    cases h2 : (y == 0) <;> cases h3 : (d == 0) <;> simp [this]
  · have : (b == 0) = false := by simpa using hb
    cases h2 : bedB b <;> cases h3 : yarnB y <;> cases h4 : dirB d <;> simp [this]

theorem one_cases (c : Int) : ((c == 1) = true) ∨ ((c == 1) = false ∧ (c == -1) = true) ∨ ((c == 1) = false ∧ (c == -1) = false) := by
  cases h1 : (c == 1) <;> cases h2 : (c == -1) <;> simp

theorem count_cases (lo c n p : Int) (h0 : 0 ≤ n) (h1 : n ≤ 12) (hp0 : 0 ≤ p) (hpn : p ≤ n) (hlo : 0 ≤ lo := by decide) :
    ((lo ≤ c ∧ c ≤ 4) ∧ IntKind.i64.wrap (n - c) = n - c ∧ IntKind.i64.wrap (n - c + 1) = n - c + 1 ∧ IntKind.i64.wrap (p + c) = p + c) ∨ ¬ (lo ≤ c ∧ c ≤ 4) := by
  rcases Classical.em (lo ≤ c ∧ c ≤ 4) with h | h
  · exact .inl ⟨h, IntWalk.i64_in _ (by omega), IntWalk.i64_in _ (by omega), IntWalk.i64_in _ (by omega)⟩
  · exact .inr h
theorem zero_cases (c n : Int) (h0 : 0 ≤ n) (h1 : n ≤ 12) : ((c == 0) = true ∧ IntKind.i64.wrap (n + 1) = n + 1) ∨ ((c == 0) = false ∧ IntKind.i64.wrap (n + 1) = n + 1) := by
  have := IntWalk.i64_in (n + 1) (by omega)
  cases h : (c == 0) <;> simp [this]

end Go.Proofs.YtccdnmafakaleaaGreatDoor
