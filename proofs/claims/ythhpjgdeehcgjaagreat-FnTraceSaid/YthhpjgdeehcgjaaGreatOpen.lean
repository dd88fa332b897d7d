/-
  Arguments opened: a slice of int64, a slice of events, as what the walks are told of them.
-/
import Derived.Test.YthhpjgdeehcgjaaGreatMem
import Derived.ProofKit
import Derived.OpenShut
import Derived.ShutString
import Derived.ChangeOld
import Derived.Deep.Slices
import Derived.Deep.Fields
import Derived.ChangeSame
namespace Go.Proofs.YthhpjgdeehcgjaaGreat
set_option linter.unusedVariables false
set_option linter.unusedSimpArgs false
open Go.ChangeShapes Go.WideShapes Go.ChangeAt Go.RowKit Go.Deep
open Go.ChangeMaps (open_string shut_string)

section
variable {H : Type} {enc : TypeId × Value → H} {P : Program} {w : World} {base : Nat} {spare : Nat → Bool} {held : Bool}
end

theorem addr_of_cell {w : World} {a : Addr} {i : Nat} {v : Value} (h : w.cell? (a.add i) = some v) (h0 : ∃ u, w.cell? (a.add 0) = some u) : a = ⟨a.block, a.off, none⟩ ∧ a.block < w.heap.size ∧ w.cell? ⟨a.block, a.off + i, none⟩ = some v := by
  obtain ⟨b, off, spot⟩ := a
  obtain ⟨u, h0⟩ := h0
  have hs : spot = none := by simpa [Addr.add] using World.cell?_spot h0
  subst hs
  have e : (⟨b, off, none⟩ : Addr).add i = ⟨b, off + i, none⟩ := by unfold Addr.add; split <;> simp_all
  rw [e] at h
  have hb := block_lt_of_cell h
  exact ⟨rfl, hb, h⟩

section
variable {H : Type} {enc : TypeId × Value → H} {P : Program} {W : World} {base : Nat} {d : DataW H} {p : List MemPlace} {v : Value}

theorem build_list {α : Type} {n : Nat} {R : Nat → α → Prop} (h : ∀ k, k < n → ∃ x, R k x) : ∃ l : List α, l.length = n ∧ ∀ k, k < n → ∃ x, l[k]? = some x ∧ R k x := by
  have : ∀ q, q ≤ n → ∃ l : List α, l.length = q ∧ ∀ k, k < q → ∃ x, l[k]? = some x ∧ R k x := by
    intro q
    induction q with
    | zero => intro _; exact ⟨[], rfl, fun k hk => absurd hk (by omega)⟩
    | succ q ih =>
      intro hq
      obtain ⟨l, hlen, hall⟩ := ih (by omega)
      obtain ⟨e, he⟩ := h q (by omega)
      refine ⟨l ++ [e], by simp [hlen], fun k hk => ?_⟩
      by_cases hkq : k = q
      · subst hkq
        exact ⟨e, by simp [← hlen], he⟩
      · obtain ⟨e', h1, h2⟩ := hall k (by omega)
        exact ⟨e', by rw [List.getElem?_append_left (by omega)]; exact h1, h2⟩
  exact this n (Nat.le_refl _)

end

end Go.Proofs.YthhpjgdeehcgjaaGreat
