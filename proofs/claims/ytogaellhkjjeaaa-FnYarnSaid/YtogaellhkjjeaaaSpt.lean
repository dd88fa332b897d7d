/-
  Own rows side by side, as many as are wanted.
-/
import Derived.Test.YtogaellhkjjeaaaSpot
namespace Go.Proofs.Ytogaellhkjjeaaa
set_option linter.unusedVariables false
set_option linter.unusedSimpArgs false
open Go.RowKit

theorem Spots.less {w : World} {B N M : Nat} {S : Nat → Spot} (h : Spots w B N S) (hM : M ≤ N) : Spots w B M S :=
  ⟨fun j hj => h.own j (by omega), fun i j g hi hj hij hg => h.dis i j g (by omega) (by omega) hij hg⟩
/-- The rows, one to each number. -/
def SpotsT (w : World) (B : Nat) (S : Nat → Spot) : Prop := ∀ N, Spots w B N S
section
variable {w w' : World} {B : Nat} {S : Nat → Spot}
theorem SpotsT.own (h : SpotsT w B S) (j : Nat) : (S j).owned w B := (h (j + 1)).own j (by omega)
theorem SpotsT.dis (h : SpotsT w B S) {i j g : Nat} (hij : i ≠ j) (hg : (S i).v.ownBlock = some g) : (S j).v.ownBlock ≠ some g := (h (i + j + 1)).dis i j g (by omega) (by omega) hij hg
theorem SpotsT.lt (h : SpotsT w B S) {j g : Nat} (hg : (S j).v.ownBlock = some g) : B ≤ g ∧ g < w.heap.size := World.ownsRow.lt (h.own j) g hg
theorem SpotsT.below (h : SpotsT w B S) (hb : Below w.heap.size w w') : SpotsT w' B S := fun N => (h N).below hb
theorem SpotsT.alloc (h : SpotsT w B S) (o : Obj) : SpotsT (w.alloc o) B S := fun N => (h N).alloc o
theorem SpotsT.drew (h : SpotsT w B S) : SpotsT w.drew B S := fun N => (h N).drew
theorem SpotsT.drewN (h : SpotsT w B S) (n : Nat) : SpotsT (w.drewN n) B S := fun N => ⟨fun j hj => (h N).own j hj, (h N).dis⟩
theorem SpotsT.app (h : SpotsT w B S) (p : Nat) (s : Spot) (hown : s.owned w' B) (hg : w.grownBy w' (S p).v.ownBlock) (hat : s.v.ownBlock = (S p).v.ownBlock ∨ s.v.ownBlock = some w.heap.size) : SpotsT w' B (putS S p s) :=
  fun N => ((h (N + p + 1)).app (by omega) s hown hg hat).less (by omega)
theorem SpotsT.put (h : SpotsT w B S) (p : Nat) (s : Spot) (hown : s.owned w B) (hat : ∀ g, s.v.ownBlock = some g → (S p).v.ownBlock = some g ∨ ∀ j, j ≠ p → (S j).v.ownBlock ≠ some g) : SpotsT w B (putS S p s) :=
  fun N => ((h (N + p + 1)).put p s hown (fun g hg => (hat g hg).elim (fun e => .inl ⟨by omega, e⟩) (fun e => .inr fun j _ hj => e j hj))).less (by omega)
theorem SpotsT.putNone (h : SpotsT w B S) (p : Nat) (E : TypeId) (sz : Nat) : SpotsT w B (putS S p (Spot.none_ E sz)) := fun N => (h N).putNone p E sz
theorem SpotsT.putNew (h : SpotsT w B S) (hb : Below w.heap.size w w') (p : Nat) (s : Spot) (hown : s.owned w' w.heap.size) (hB : B ≤ w.heap.size) : SpotsT w' B (putS S p s) := fun N => (h N).putNew hb p s hown hB
theorem SpotsT.setCell (h : SpotsT w B S) {p g i : Nat} (hg : (S p).v.ownBlock = some g) (u : Value) (hi : i < (S p).n * (S p).sz) : SpotsT (w.setCell ⟨g, i, none⟩ u) B (putS S p { S p with xs := (S p).xs.set i u }) :=
  fun N => ((h (N + p + 1)).setCell (by omega) hg u hi).less (by omega)
theorem SpotsT.far (h : SpotsT w B S) {p : Addr} (hp : p.block < B) (u : Value) : SpotsT (w.setCell p u) B S := fun N => (h N).far hp u
/-- A cell outside of all rows. -/
theorem SpotsT.out (h : SpotsT w B S) {p : Addr} (hp : ∀ j, (S j).v.ownBlock ≠ some p.block) (u : Value) : SpotsT (w.setCell p u) B S :=
  fun N => ⟨fun j hj => own_far (h.own j) (hp j) u, (h N).dis⟩
/-- What stands outside of the rows changes: the rows stay. -/
theorem SpotsT.keep (h : SpotsT w B S) (hk : ∀ j g, (S j).v.ownBlock = some g → w'.heap[g]? = w.heap[g]?) : SpotsT w' B S := fun N => by
  refine ⟨fun j hj => ⟨(h.own j).1, ?_⟩, (h N).dis⟩
  rcases (h.own j).2 with h2 | ⟨g, cap, cur, hv, hb, hh, h3⟩
  · exact .inl h2
  · exact .inr ⟨g, cap, cur, hv, hb, (hk j g (by rw [hv]; rfl)).trans hh, h3⟩
end
/-- The rows that a world holds when it is opened: none. -/
theorem SpotsT.none_ (w : World) (B : Nat) (E : TypeId) (sz : Nat) : SpotsT w B (fun _ => Spot.none_ E sz) := fun N => ⟨fun j _ => World.ownsRow_nil _ _ _ _, fun i j g _ _ _ hg => by cases hg⟩
/-- What a row's cell holds. -/
theorem Spot.cell {s : Spot} {w : World} {B g i : Nat} {x : Value} (h : s.owned w B) (hg : s.v.ownBlock = some g) (hx : s.xs[i]? = some x) : w.cell? ⟨g, i, none⟩ = some x ∧ ∀ o, w.frozen? ⟨g, o, none⟩ = false := by
  have hi : i < s.xs.length := (List.getElem?_eq_some_iff.1 hx).1
  have hl := h.1
  rcases h.2 with ⟨hv, _⟩ | ⟨g', cap, cur, hv, hb, hh, hn, hc, hs, hxs⟩
  · rw [hv] at hg; cases hg
  · rw [hv] at hg
    injection hg with hg
    simp only at hg
    subst hg
    refine ⟨?_, fun o => frozen_of_row w g' o cur _ hh⟩
    rw [cell_of_row w g' i cur _ (0, 0) hh, ← Array.getElem?_toList, ← hx, ← hxs, List.getElem?_take, if_pos (by omega)]

end Go.Proofs.Ytogaellhkjjeaaa
