/-
  How much a count leaves.
-/
namespace Go.Proofs.YtccdnmafakaleaaGreatDoor

def szOf (left : Int) (n : Nat) : Int := if (n : Int) ≤ left then left - n else -1
theorem szOf_no {left : Int} {n : Nat} (h : ¬ (n : Int) ≤ left) : szOf left n = -1 := by simp [szOf, h]
theorem szOf_yes {left : Int} {n : Nat} (h : (n : Int) ≤ left) : szOf left n = left - n := by simp [szOf, h]

theorem szOf_pos' {left z : Int} {n : Nat} (h : szOf left n = z) (hz : 0 ≤ z) : (n : Int) ≤ left ∧ z = left - n := by
  unfold szOf at h
  split at h <;> omega

end Go.Proofs.YtccdnmafakaleaaGreatDoor
