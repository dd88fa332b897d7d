/-
  The code of a machine and a loop; what is used of a valid machine's loops: plain data.
-/
import Derived.Test.YtolcgopfbbmjgaaMcOk
namespace Go.Proofs.Ytolcgopfbbmjgaa
set_option linter.unusedVariables false
set_option linter.unusedSimpArgs false
open Go.RowKit

/-- The code of a machine and a loop. -/
def askC (m : Mc) (k : Int) : Int := if okM m = false then 1 else if inB 0 k ((m.ls.length : Int) - 1) = false then 2 else 0
theorem ask_bad {m : Mc} {k : Int} (h : okM m = false) : askC m k = 1 := by simp [askC, h]
theorem ask_rng {m : Mc} {k : Int} (h : okM m = true) (h1 : inB 0 k ((m.ls.length : Int) - 1) = false) : askC m k = 2 := by simp [askC, h, h1]
theorem ask_ok {m : Mc} {k : Int} (h : okM m = true) (h1 : inB 0 k ((m.ls.length : Int) - 1) = true) : askC m k = 0 := by simp [askC, h, h1]
theorem ls_len {m : Mc} (h : okM m = true) : m.ls.length ≤ 300 := by
  unfold okM at h
  simp at h
  have := (headM_yes h.1).2.2.2.2.2.1
  omega

theorem infs_at {wd : Int} : ∀ {l : List Inf} {i : Int} {j : Nat} {x : Inf}, infsB wd i l = true → l[j]? = some x → okInf wd (i + j) x = true
  | [], i, j, x, h, hx => by simp at hx
  | y :: t, i, j, x, h, hx => by
    rw [infsB] at h
    simp at h
    rcases j with _ | j
    · simp at hx
      subst hx
      simpa using h.1
    · simp at hx
      have := infs_at h.2 hx
      rw [show i + 1 + (j : Int) = i + ((j + 1 : Nat) : Int) by omega] at this
      exact this
theorem pars_mem {n : Int} : ∀ {l pre : List Int} {p : Int}, parsB n pre l = true → p ∈ l → 0 ≤ p ∧ p ≤ n - 1
  | [], pre, p, h, hp => by simp at hp
  | x :: t, pre, p, h, hp => by
    rw [parsB] at h
    simp at h
    rcases List.mem_cons.1 hp with rfl | hp
    · exact inB_iff.1 h.1
    · exact pars_mem h.2.2 hp
/-- What is used of a valid machine's loops. -/
theorem ok_loop {m : Mc} {j : Nat} {x : Inf} (h : okM m = true) (hx : m.ls[j]? = some x) : (∀ p ∈ x.ps, 0 ≤ p ∧ p < j) ∧ x.ps.length ≤ 4 := by
  unfold okM at h
  simp at h
  have h1 := infs_at h.2.2.2.2.1 hx
  unfold okInf at h1
  simp at h1
  obtain ⟨_, _, h4, h5, _⟩ := h1
  refine ⟨fun p hp => ?_, h4⟩
  have := pars_mem h5 hp
  omega

end Go.Proofs.Ytolcgopfbbmjgaa
