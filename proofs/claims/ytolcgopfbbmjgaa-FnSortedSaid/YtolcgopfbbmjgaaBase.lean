/-
  Base: words for memory and small laws that all walks of this family use; nothing of the program stands here.
-/
import Derived.WalkKit
import Derived.WalkSpells
import Derived.WalkLawsBesides
import Derived.Deep.QuietTactic
import Derived.BigQuiet
import Derived.Lib.Hide
import Derived.Deep.OwnRows
namespace Go.Proofs.Ytolcgopfbbmjgaa
set_option linter.unusedVariables false
set_option linter.unusedSimpArgs false
open Go.RowKit

/-- All old cells and marks read as before. -/
theorem bcell {W w1 : World} (hb : Below W.heap.size W w1) : (∀ b o, b < W.heap.size → w1.cell? ⟨b, o, none⟩ = W.cell? ⟨b, o, none⟩) ∧ (∀ b o, b < W.heap.size → w1.frozen? ⟨b, o, none⟩ = W.frozen? ⟨b, o, none⟩) :=
  ⟨fun b o h => hb.cell (p := ⟨b, o, none⟩) h, fun b o h => hb.frozen (p := ⟨b, o, none⟩) h⟩

open Classical in
/-- The world 'x' if it extends 'w', else 'w': a name for every world of the class 'Below w.heap.size w'. -/
noncomputable def wgrow (w x : World) : World := if Below w.heap.size w x then x else w

theorem below_wgrow (w x : World) : Below w.heap.size w (wgrow w x) := by
  unfold wgrow
  split
  · assumption
  · exact Below.refl _ _

theorem wgrow_of {w x : World} (h : Below w.heap.size w x) : wgrow w x = x := by
  unfold wgrow
  rw [if_pos h]

theorem wgrow_cell {w x : World} {b o : Nat} {v : Value} (h : w.cell? ⟨b, o, none⟩ = some v) : (wgrow w x).cell? ⟨b, o, none⟩ = some v := by
  rw [(below_wgrow w x).cell (p := ⟨b, o, none⟩) (block_lt_of_cell h)]
  exact h

/-- A region that draws its order, in the class of the worlds that extend w: one walk of the text's order. -/
theorem wp_region_grow {P : Program} {id : Nat} {Q : Exit → Act → World → Prop} {a : Act} {w : World} {l : List Oper} (hm : P.follows .mixedOrders = true) (hB : Region.lexB .any l.toArray = true)
    (h : wpQuiet P l.toArray (fun w' => ∃ x, w' = wgrow w x) (fun a' => ∀ w', Below w.heap.size w w' → Q .normal a' w') l a) : (Code.region id l.toArray true).wp P Q a w :=
  wp_region_quiet (C := fun w' => ∃ x, w' = wgrow w x) hm hB ⟨w.drew, (wgrow_of (Below.drew (Below.refl _ _))).symm⟩ (by
    have h' : (fun a' => ∀ w', (∃ x, w' = wgrow w x) → Q .normal a' w') = (fun a' => ∀ w', Below w.heap.size w w' → Q .normal a' w') := by
      funext a'
      refine propext ⟨fun hh w' hw' => hh w' ⟨w', (wgrow_of hw').symm⟩, fun hh w' hw' => ?_⟩
      obtain ⟨x, rfl⟩ := hw'
      exact hh _ (below_wgrow w x)
    rw [h']
    simpa using h)

/-- A callee's contract met in such a region. -/
theorem calls_grow {P : Program} {f : FuncId} {args : Array Value} {w x : World} {v : Value}
    (h : Calls P f args (wgrow w x) fun e w' => e = .returned v ∧ Below (wgrow w x).heap.size (wgrow w x) w') :
    Calls P f args (wgrow w x) fun e w'' => e = .returned v ∧ ∃ y, w'' = wgrow w y :=
  h.mono fun _ w' ⟨he, hw⟩ => ⟨he, w', (wgrow_of ((below_wgrow w x).trans (hw.mono (below_wgrow w x).size))).symm⟩

theorem ret_bool {a b : Bool} (h : a = b) : Ending.returned (.bool a) = .returned (.bool b) := by rw [h]
theorem ret_int {k : IntKind} {a b : Int} (h : a = b) : Ending.returned (.int k a) = .returned (.int k b) := by rw [h]

end Go.Proofs.Ytolcgopfbbmjgaa
