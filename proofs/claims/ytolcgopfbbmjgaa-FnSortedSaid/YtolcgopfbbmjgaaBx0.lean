/-
  A box: a block of the call's own whose cells are stored into one by one (memory alone).
-/
import Derived.Test.YtolcgopfbbmjgaaMem
namespace Go.Proofs.Ytolcgopfbbmjgaa
set_option linter.unusedVariables false
set_option linter.unusedSimpArgs false
open Go.RowKit

theorem CellsAt.of_alloc {w : World} {us : List Value} {t : TypeId} : CellsAt (w.alloc (.cells us.toArray t)) w.heap.size 0 us := fun i x hi => by
  have := new_cells w t us i x hi
  have e : (⟨w.heap.size, 0, none⟩ : Addr).add i = ⟨w.heap.size, 0 + i, none⟩ := by unfold Addr.add; split <;> simp_all
  rw [← e]
  exact this
theorem CellsAt.far {w : World} {b o : Nat} {us : List Value} (h : CellsAt w b o us) {p : Addr} (hp : p.block ≠ b) (u : Value) : CellsAt (w.setCell p u) b o us := fun i x hi => by
  rw [World.cell?_setCell_other _ _ _ _ (by intro e; subst e; exact hp rfl)]
  exact h i x hi
theorem CellsAt.alloc {w : World} {b o : Nat} {us : List Value} (h : CellsAt w b o us) (hb : b < w.heap.size) (x : Obj) : CellsAt (w.alloc x) b o us := fun i u hi => by
  rw [World.cell?_alloc_lt _ _ _ hb]
  exact h i u hi
theorem setCell_frozen {w : World} {g : Nat} {p : Addr} {u : Value} (hf : ∀ o, w.frozen? ⟨g, o, none⟩ = false) (o : Nat) : (w.setCell p u).frozen? ⟨g, o, none⟩ = false := by
  simp [go_sem, hf o]
theorem cell_set_same {w : World} {p : Addr} {u v : Value} (h : w.cell? p = some u) : (w.setCell p v).cell? p = some v := World.cell?_setCell_same w p v h
theorem far_cell {bc b : Nat} (h : bc ≠ b) (W : World) (i : Nat) (u : Value) (ob : Nat) : (W.setCell ⟨bc, i, none⟩ u).cell? ⟨b, ob, none⟩ = W.cell? ⟨b, ob, none⟩ := World.cell?_setCell_other _ _ _ _ (by intro e; injection e with e; exact h e)
theorem near_cell {i i' : Nat} (h : i ≠ i') (b : Nat) (W : World) (u : Value) : (W.setCell ⟨b, i, none⟩ u).cell? ⟨b, i', none⟩ = W.cell? ⟨b, i', none⟩ := World.cell?_setCell_other _ _ _ _ (by intro e; injection e with _ e; exact h e)
def Bx (w : World) (g : Nat) (us : List Value) : Prop := CellsAt w g 0 us ∧ (∀ i, w.frozen? ⟨g, i, none⟩ = false) ∧ g < w.heap.size
theorem Bx.new (w : World) (us : List Value) (t : TypeId) : Bx (w.alloc (.cells us.toArray t)) w.heap.size us :=
  ⟨CellsAt.of_alloc, fun i => frozen_of_row _ _ i _ _ (heap_alloc_new w _), by rw [World.size_alloc]; exact Nat.lt_succ_self _⟩
theorem Bx.keep {w w' : World} {g : Nat} {us : List Value} (h : Bx w g us) (hk : w'.heap[g]? = w.heap[g]?) (hs : w.heap.size ≤ w'.heap.size) : Bx w' g us :=
  ⟨fun j u hu => (World.cell?_of_block (a := ⟨g, 0 + j, none⟩) hk).trans (h.1 j u hu), fun i => (World.frozen?_of_block (a := ⟨g, i, none⟩) hk).trans (h.2.1 i), Nat.lt_of_lt_of_le h.2.2 hs⟩
theorem Bx.below {w w' : World} {g B : Nat} {us : List Value} (h : Bx w g us) (hb : Below B w w') (hg : g < B) : Bx w' g us := h.keep (hb.block g hg) hb.size
theorem Bx.alloc {w : World} {g : Nat} {us : List Value} (h : Bx w g us) (o : Obj) : Bx (w.alloc o) g us := h.below ((Below.refl w.heap.size w).alloc (Nat.le_refl _) o) h.2.2
theorem Bx.drew {w : World} {g : Nat} {us : List Value} (h : Bx w g us) : Bx w.drew g us := h
theorem Bx.two {w : World} {g : Nat} {u0 u1 : Value} (h : Bx w g [u0, u1]) : w.cell? ⟨g, 0, none⟩ = some u0 ∧ w.cell? ⟨g, 1, none⟩ = some u1 := CellsAt.two h.1
theorem Bx.eight {w : World} {g : Nat} {u0 u1 u2 u3 u4 u5 u6 u7 : Value} (h : Bx w g [u0, u1, u2, u3, u4, u5, u6, u7]) : w.cell? ⟨g, 0, none⟩ = some u0 ∧ w.cell? ⟨g, 1, none⟩ = some u1 ∧ w.cell? ⟨g, 2, none⟩ = some u2 ∧ w.cell? ⟨g, 3, none⟩ = some u3 ∧ w.cell? ⟨g, 4, none⟩ = some u4 ∧ w.cell? ⟨g, 5, none⟩ = some u5 ∧ w.cell? ⟨g, 6, none⟩ = some u6 ∧ w.cell? ⟨g, 7, none⟩ = some u7 := by
  obtain ⟨h0, h1, h2, h3, h4, h5, h6, h7⟩ := CellsAt.eight h.1
  exact ⟨h0, h1, h2, h3, h4, h5, h6, h7⟩
theorem Bx.far {w : World} {g g' : Nat} {us : List Value} (h : Bx w g us) (hg : g ≠ g') (i : Nat) (u : Value) : Bx (w.setCell ⟨g', i, none⟩ u) g us := h.keep (Below.heap_setCell _ _ _ _ hg) (by simp)
theorem Bx.set {w : World} {g i : Nat} {us : List Value} (h : Bx w g us) (hi : i < us.length) (u : Value) : Bx (w.setCell ⟨g, i, none⟩ u) g (us.set i u) := by
  refine ⟨fun j v hj => ?_, fun j => setCell_frozen h.2.1 j, by simp; exact h.2.2⟩
  rw [Nat.zero_add]
  by_cases e : j = i
  · subst e
    rw [List.getElem?_set_self hi] at hj
    injection hj with hj
    subst hj
    have := h.1 j us[j] (List.getElem?_eq_getElem hi)
    rw [Nat.zero_add] at this
    exact cell_set_same this
  · rw [List.getElem?_set_ne (fun e' => e e'.symm)] at hj
    have := h.1 j v hj
    rw [Nat.zero_add] at this
    rw [near_cell (fun e' => e e'.symm)]
    exact this
theorem drew_cell (w : World) (p : Addr) : w.drew.cell? p = w.cell? p := rfl
theorem wrap_sm {x : Int} (h : -1000 ≤ x) (h' : x ≤ 1000) : IntKind.i64.wrap x = x := by rw [IntKind.wrap_i64]; omega
theorem wrap12 {x : Int} (h : x = 0 ∨ x = 1) : IntKind.i64.wrap (1 + x) = 1 + x := by rcases h with rfl | rfl <;> rfl
theorem Bx.six {w : World} {g : Nat} {u0 u1 u2 u3 u4 u5 : Value} (h : Bx w g [u0, u1, u2, u3, u4, u5]) : w.cell? ⟨g, 0, none⟩ = some u0 ∧ w.cell? ⟨g, 1, none⟩ = some u1 ∧ w.cell? ⟨g, 2, none⟩ = some u2 ∧ w.cell? ⟨g, 3, none⟩ = some u3 ∧ w.cell? ⟨g, 4, none⟩ = some u4 ∧ w.cell? ⟨g, 5, none⟩ = some u5 := by
  obtain ⟨h0, h1, h2, h3, h4, h5⟩ := CellsAt.six h.1
  exact ⟨h0, h1, h2, h3, h4, h5⟩

end Go.Proofs.Ytolcgopfbbmjgaa
