/-
  The text of an event: EventText of both sides.
-/
import Derived.Test.YtccdnmafakaleaaGreatDoorEvtB
import Derived.Test.YtccdnmafakaleaaGreatDoorEvtC
import Derived.Test.YtccdnmafakaleaaGreatDoorValid
import Derived.Test.YtccdnmafakaleaaGreatDoorL10e
namespace Go.Proofs.YtccdnmafakaleaaGreatDoor
set_option linter.unusedVariables false
set_option linter.unusedSimpArgs false
open Go.RowKit

/-- The text of an event, nothing if it is none. -/
def txE (e : Ev) : List UInt8 := if valE 12 e = true then evT e else []
theorem val_facts {e : Ev} (h : valE 12 e = true) : (1 ≤ e.k ∧ e.k ≤ 5) ∧ (0 ≤ e.p ∧ e.p ≤ 1000) ∧ (-1000 ≤ e.c ∧ e.c ≤ 1000) ∧ (0 ≤ e.y ∧ e.y ≤ 1000) ∧ (e.b = 0 ↔ e.y = 0) ∧ (e.y ≠ 0 → (e.d = 1 ∨ e.d = -1)) := by
  obtain ⟨k, p, c, b, y, d⟩ := e
  unfold valE at h
  simp only [Bool.and_eq_true, decide_eq_true_eq] at h
  obtain ⟨h0, h⟩ := h
  by_cases k1 : k = 1
  · simp [k1] at h ⊢
    omega
  by_cases k2 : k = 2
  · simp [k2, stitB, stit3, bedB, yarnB, dirB] at h ⊢
    omega
  by_cases k3 : k = 3
  · simp [k3, stitB, stit3, bedB, yarnB, dirB] at h ⊢
    omega
  by_cases k4 : k = 4
  · simp [k4] at h ⊢
    omega
  by_cases k5 : k = 5
  · simp [k5, stitB, stit3, bedB, yarnB, dirB] at h ⊢
    obtain ⟨h1, h2, h3⟩ := h
    by_cases hb : b = 1
    · rw [if_pos hb] at h3
      omega
    · rw [if_neg hb] at h3
      omega
  simp [k1, k2, k3, k4, k5] at h

attribute [local go_sem] strV

end Go.Proofs.YtccdnmafakaleaaGreatDoor
