/-
  Nested data: slices whose elements hold slices; arguments of such types opened.
-/
import Derived.Test.YthhpjgdeehcgjaaGreatOpen
namespace Go.Proofs.YthhpjgdeehcgjaaGreat
set_option linter.unusedVariables false
set_option linter.unusedSimpArgs false
open Go.ChangeShapes Go.WideShapes Go.ChangeAt Go.RowKit Go.Deep
open Go.ChangeMaps (open_string shut_string)

/-- A slice of n elements of sz cells each; an element's cells us tell its datum by R. -/
def RdN {α : Type} (R : World → Nat → List Value → α → Prop) (sz : Nat) (w : World) (B : Nat) (v : Value) (l : List α) : Prop :=
  ∃ A n c, v = .slice A n c ∧ n ≤ 9223372036854775807 ∧ Hid (l.length = n) ∧ ∀ k, k < n → ∃ b off x us, A = some ⟨b, off, none⟩ ∧ b < B ∧ l[k]? = some x ∧ us.length = sz ∧ CellsAt w b (off + k * sz) us ∧ R w B us x

section
variable {α : Type} {R : World → Nat → List Value → α → Prop} {sz : Nat} {w w' : World} {B B' : Nat} {v : Value} {l : List α}
theorem RdN.below (hR : ∀ us x, R w B us x → R w' B us x) (h : RdN R sz w B v l) (hb : Below B w w') : RdN R sz w' B v l := by
  obtain ⟨A, n, c, rfl, hn, hl, h⟩ := h
  refine ⟨A, n, c, rfl, hn, hl, fun k hk => ?_⟩
  obtain ⟨b, off, x, us, h1, h2, h3, h4, h5, h6⟩ := h k hk
  exact ⟨b, off, x, us, h1, h2, h3, h4, h5.below hb h2, hR us x h6⟩
theorem RdN.more (hR : ∀ us x, R w B us x → R w B' us x) (h : RdN R sz w B v l) (hB : B ≤ B') : RdN R sz w B' v l := by
  obtain ⟨A, n, c, rfl, hn, hl, h⟩ := h
  refine ⟨A, n, c, rfl, hn, hl, fun k hk => ?_⟩
  obtain ⟨b, off, x, us, h1, h2, h3, h4, h5, h6⟩ := h k hk
  exact ⟨b, off, x, us, h1, by omega, h3, h4, h5, hR us x h6⟩
theorem RdN.shape (h : RdN R sz w B v l) : ∃ A c, v = .slice A l.length c := by
  obtain ⟨A, n, c, rfl, _, hl, _⟩ := h
  exact ⟨A, c, by rw [hl.out]⟩
end
theorem RdI.len {w : World} {B : Nat} {v : Value} {l : List Int} (h : RdI w B v l) : ∃ A c, v = .slice A l.length c := by
  obtain ⟨A, n, c, rfl, _, hl, _⟩ := h
  exact ⟨A, c, by rw [hl.out]⟩
theorem RdS.lens {α : Type} {cs : α → List Value} {sz : Nat} {w : World} {B : Nat} {v : Value} {l : List α} (h : RdS cs sz w B v l) : ∃ A c, v = .slice A l.length c := by
  obtain ⟨A, n, c, rfl, _, hl, _⟩ := h
  exact ⟨A, c, by rw [hl.out]⟩

section
variable {H : Type} {enc : TypeId × Value → H} {P : Program} {W : World} {base : Nat}

end

end Go.Proofs.YthhpjgdeehcgjaaGreat
