/-
  YarnOf, of the program and of the reference: a list and a code.
-/
import Derived.Test.YtccdnmafakaleaaDoorMcFab
import Derived.Test.YtccdnmafakaleaaDoorMcAsk
namespace Go.Proofs.YtccdnmafakaleaaDoor
set_option linter.unusedVariables false
set_option linter.unusedSimpArgs false
open Go.RowKit

theorem l07Ok_p (m : Mc) (g : Nat) (w : World) (h : RdP w g m) (hdr : m.dr.length ≤ 1048576) :
    Calls Tryd.prog 23 #[.pointer (some ⟨g, 0, none⟩)] w fun e w' => e = .returned (.bool (okM m)) ∧ Below w.heap.size w w' := by
  obtain ⟨F, G, C, L, D, hc, h1, h2, h3, h4, h5, h6⟩ := h
  exact l07Ok_any m F G C L D g w hc h1 h2 h3 h4 h5 hdr

/-- A list that is told if the code is 0. -/
def okList (c : Int) (l : List Int) : List Int := if c = 0 then l else []
theorem okList_no {c : Int} {l : List Int} (h : c ≠ 0) : okList c l = [] := by unfold okList; rw [if_neg h]
theorem okList_yes {c : Int} {l : List Int} (h : c = 0) : okList c l = l := by unfold okList; rw [if_pos h]
theorem okList_len {c : Int} {l : List Int} {n : Nat} (h : c = 0 → l.length ≤ n) : (okList c l).length ≤ n := by
  unfold okList
  split
  · rename_i hc; exact h hc
  · simp
theorem GivesC.nil {w w' : World} {E sz : Nat} {code c : Int} {l : List Int} (hc : c ≠ 0) (e : code = c) (hb : Below w.heap.size w w') : GivesC w E sz (okList c l).length (vI (okList c l)) code (.returned (.tuple #[.slice none 0 0, .int .i64 c])) w' := by
  subst e
  rw [okList_no hc]
  exact ⟨_, rfl, OwC.nil, hb⟩
theorem GivesC.yes {w w' : World} {E sz : Nat} {code c : Int} {v : Value} {l : List Int} (hc : c = 0) (e : code = c) (ho : OwC w' w.heap.size w'.heap.size E sz v l.length (vI l)) (hb : Below w.heap.size w w') : GivesC w E sz (okList c l).length (vI (okList c l)) code (.returned (.tuple #[v, .int .i64 0])) w' := by
  subst e
  subst hc
  rw [okList_yes rfl]
  exact ⟨_, rfl, ho, hb⟩

/-- The code of a machine and a carrier. -/
def yarnC (m : Mc) (c : Int) : Int := if okM m = false then 1 else if inB 1 c 4 = false then 2 else 0
theorem yarnC_bad {m : Mc} {c : Int} (h : okM m = false) : yarnC m c = 1 := by simp [yarnC, h]
theorem yarnC_rng {m : Mc} {c : Int} (h : okM m = true) (h1 : inB 1 c 4 = false) : yarnC m c = 2 := by simp [yarnC, h, h1]
theorem yarnC_ok {m : Mc} {c : Int} (h : okM m = true) (h1 : inB 1 c 4 = true) : yarnC m c = 0 := by simp [yarnC, h, h1]

theorem OwC.lo {w : World} {lo lo' hi E sz n : Nat} {v : Value} {xs : List Value} (h : OwC w lo hi E sz v n xs) (hl : lo' ≤ lo) : OwC w lo' hi E sz v n xs := h.wide hl (Nat.le_refl _)



end Go.Proofs.YtccdnmafakaleaaDoor
