/-
  Words for rows of a call's own: kept behind what only adds memory; a slice and a code as the result.
-/
import Derived.Test.YtolcgopfbbmjgaaMem
namespace Go.Proofs.Ytolcgopfbbmjgaa
set_option linter.unusedVariables false
set_option linter.unusedSimpArgs false
open Go.RowKit

theorem own_below {w w' : World} {B e size n : Nat} {v : Value} {xs : List Value} (h : w.ownsRow B e size v n xs) (hb : Below w.heap.size w w') : w'.ownsRow B e size v n xs := by
  refine ⟨h.1, ?_⟩
  rcases h.2 with h2 | ⟨g, cap, cur, hv, hg, hh, h3⟩
  · exact .inl h2
  · exact .inr ⟨g, cap, cur, hv, hg, (hb.block g (Array.getElem?_eq_some_iff.1 hh).1).trans hh, h3⟩

/-- A slice of the call's own and a code. -/
def GivesC (w : World) (E sz n : Nat) (xs : List Value) (code : Int) (e : Ending) (w' : World) : Prop :=
  ∃ v, e = .returned (.tuple #[v, .int .i64 code]) ∧ OwC w' w.heap.size w'.heap.size E sz v n xs ∧ Below w.heap.size w w'

theorem OwC.nil {w : World} {lo hi E sz : Nat} {A : Option Addr} {c : Nat} : OwC w lo hi E sz (.slice A 0 c) 0 [] := ⟨by simp, .inl ⟨rfl, A, c, rfl⟩⟩

theorem new_cells' {w : World} (E : TypeId) (us : List Value) {g : Nat} (hg : g = w.heap.size) : ∀ j u, us[j]? = some u → (w.alloc (.cells us.toArray E)).cell? ((⟨g, 0, none⟩ : Addr).add j) = some u := by
  subst hg
  exact new_cells w E us
theorem below_append' {B : Nat} {a w0 w w' : World} {E sz n : Nat} {v : Value} {xs : List Value} (h : Below B a w) (hB : B ≤ w.heap.size) (ho : w0.ownsRow B E sz v n xs) (hs : w0.heap.size ≤ w.heap.size) (hg : w.grownBy w' v.ownBlock) : Below B a w' :=
  h.grown hg hB (fun k hk => (ho.lt k hk).1)
theorem own_shape {w : World} {base e sz n : Nat} {v : Value} {xs : List Value} (h : w.ownsRow base e sz v n xs) : ∃ A c, v = .slice A n c := by
  obtain ⟨A, c, e, _⟩ := (OwC.of_own h).cells
  exact ⟨A, c, e⟩

end Go.Proofs.Ytolcgopfbbmjgaa
