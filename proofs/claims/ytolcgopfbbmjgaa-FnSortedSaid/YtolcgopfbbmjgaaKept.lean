/-
  A block that a walk leaves as it was.
-/
import Derived.Test.YtolcgopfbbmjgaaMark
namespace Go.Proofs.Ytolcgopfbbmjgaa
set_option linter.unusedVariables false
open Go.RowKit

structure Kept (b : Nat) (w w' : World) : Prop where
  lt : b < w'.heap.size
  eq : w'.heap[b]? = w.heap[b]?
theorem Kept.refl {b : Nat} {w : World} (h : b < w.heap.size) : Kept b w w := ⟨h, rfl⟩
theorem Kept.below {b B : Nat} {w w1 w2 : World} (h : Kept b w w1) (hb : Below B w1 w2) (hB : b < B) : Kept b w w2 :=
  ⟨Nat.lt_of_lt_of_le h.lt hb.size, (hb.block b hB).trans h.eq⟩
theorem Kept.next {b : Nat} {w w1 w2 : World} (h : Kept b w w1) (hb : Below w1.heap.size w1 w2) : Kept b w w2 := h.below hb h.lt
theorem Kept.only {b lo hi : Nat} {w w1 w2 : World} (h : Kept b w w1) (hb : Only lo hi w1 w2) (hh : b < lo ∨ hi ≤ b) : Kept b w w2 :=
  ⟨Nat.lt_of_lt_of_le h.lt hb.size, (hb.block b h.lt hh).trans h.eq⟩
theorem Kept.cells {b : Nat} {w w1 : World} {us : List Value} (h : Kept b w w1) (hc : CellsAt w b 0 us) : CellsAt w1 b 0 us :=
  fun i x hi => (World.cell?_of_block (a := ⟨b, 0 + i, none⟩) h.eq).trans (hc i x hi)

end Go.Proofs.Ytolcgopfbbmjgaa
