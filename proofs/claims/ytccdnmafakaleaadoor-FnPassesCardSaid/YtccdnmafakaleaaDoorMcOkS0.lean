/-
  What okM is in the reference's order.
-/
import Derived.Test.YtccdnmafakaleaaDoorMcOk
import Derived.Test.YtccdnmafakaleaaDoorMcInfo2
namespace Go.Proofs.YtccdnmafakaleaaDoor
set_option linter.unusedVariables false
set_option linter.unusedSimpArgs false
open Go.RowKit

theorem pars_rng {n : Int} : ∀ {l pre : List Int}, parsB n pre l = true → rngB 0 (n - 1) l = true
  | [], pre, h => rfl
  | x :: t, pre, h => by
    rw [parsB] at h
    simp at h
    have := pars_rng h.2.2
    unfold rngB at this ⊢
    rw [List.all_cons, h.1, this]
    rfl
theorem pars_rng_app {n : Int} {a b pre : List Int} (h : parsB n pre (a ++ b) = true) : rngB 0 (n - 1) b = true := by
  have := pars_rng h
  unfold rngB at this ⊢
  rw [List.all_append] at this
  simp at this ⊢
  exact this.2
/-- What okM is, in the reference's order. -/
theorem okM_spec {m : Mc} (h : headM m = true) : okM m = (carsB m.wd m.cs && (infsB m.wd 0 m.ls && (lens4 m.fr && (lens4 m.bk && ((rngB 0 ((m.ls.length : Int) - 1) m.dr && risB m.dr) && parsB m.ls.length [] (m.fr.flatten ++ (m.bk.flatten ++ m.dr))))))) := by
  unfold okM
  rw [h]
  have hp : parsB m.ls.length [] (m.fr.flatten ++ (m.bk.flatten ++ m.dr)) = true → rngB 0 ((m.ls.length : Int) - 1) m.dr = true := fun hh => by
    rw [← List.append_assoc] at hh
    exact pars_rng_app hh
  generalize parsB m.ls.length [] (m.fr.flatten ++ (m.bk.flatten ++ m.dr)) = P at hp ⊢
  generalize rngB 0 ((m.ls.length : Int) - 1) m.dr = Q at hp ⊢
  generalize carsB m.wd m.cs = a
  generalize infsB m.wd 0 m.ls = b
  generalize lens4 m.fr = c
  generalize lens4 m.bk = d
  generalize risB m.dr = r
  revert a b c d r P Q
  decide
theorem flatOf_yes {l : List (List Int)} (h : lens4 l = true) : flatOf l = l.flatten := by unfold flatOf; rw [if_pos h]

end Go.Proofs.YtccdnmafakaleaaDoor
