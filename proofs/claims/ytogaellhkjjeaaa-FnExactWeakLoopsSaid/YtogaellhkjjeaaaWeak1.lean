/-
  The library's slices.Sort at a row of the call's own numbers.
-/
import Derived.Test.YtogaellhkjjeaaaSpot
import Derived.Shelf.SortM.Plain
import Derived.Shelf.SlGeneric
import Derived.Ground.SlgmProg
namespace Go.Proofs.Ytogaellhkjjeaaa
set_option linter.unusedVariables false
set_option linter.unusedSimpArgs false
open Go.Sort Go.Shelf Go.RowKit

abbrev encI : Int → Value := Value.int .i64
theorem holds_ints {w : World} {g : Nat} {cur : Array Value} {e : TypeId} {zs : List Int} (hb : w.heap[g]? = some (.cells cur e (0, 0))) (ht : cur.toList.take zs.length = zs.map encI) : Holds encI w g 0 zs.toArray := by
  intro j hj
  have hj' : j < zs.length := by simpa using hj
  refine ⟨?_, by simp [World.frozen?, hb]⟩
  have h1 : (cur.toList.take zs.length)[j]? = (zs.map encI)[j]? := by rw [ht]
  rw [List.getElem?_take_of_lt hj'] at h1
  simp only [World.cell?, hb, Nat.zero_add]
  simp only [Option.isSome_none, Bool.false_eq_true, if_false]
  rw [← Array.getElem?_toList, h1]
  simp [hj']
theorem heap_sortedI {w : World} {g n : Nat} {os : Array Obj} {cur : Array Value} {e : TypeId} {fr : Nat × Nat} (d : Array Int) (hb : w.heap[g]? = some (.cells cur e fr)) :
    (grow (putRow encI (Sort.ahead w n) g 0 d) os).heap[g]? = some (.cells (putCells encI 0 d cur) e fr) := by
  have hg : g < w.heap.size := (Array.getElem?_eq_some_iff.1 hb).1
  rw [heap_grow_old _ _ (by simpa using hg)]
  simp [putRow, mapBlock, Sort.ahead, Array.getElem?_modify, hb, onCells]
theorem grown_sortedI {w : World} {g n : Nat} {os : Array Obj} (d : Array Int) : w.grownBy (grow (putRow encI (Sort.ahead w n) g 0 d) os) (some g) := by
  refine ⟨rfl, rfl, rfl, by simp, fun k hk hne => ?_⟩
  rw [heap_grow_old _ _ (by simpa using hk)]
  have : g ≠ k := fun e => hne (by rw [e])
  simp [putRow, mapBlock, Sort.ahead, Array.getElem?_modify, this]
theorem take_putI (cur : Array Value) (ts : List Int) (h : ts.length ≤ cur.size) : (putCells encI 0 ts.toArray cur).toList.take ts.length = ts.map encI := by
  apply List.ext_getElem?
  intro j
  by_cases hj : j < ts.length
  · rw [List.getElem?_take_of_lt hj, Array.getElem?_toList]
    simp [putCells, hj, show j < cur.size by omega]
  · rw [List.getElem?_take_eq_none (by omega), List.getElem?_eq_none (by simp; omega)]

shelf_lay_g SlLaysM.n5 Slgm 5 at Try 126 as sortLay

theorem sortI_any (g cap : Nat) (zs : List Int) (w : World) (B E : Nat) (h : w.ownsRow B E 1 (.slice (some ⟨g, 0, none⟩) zs.length cap) zs.length (vI zs)) (hz : zs.length < 4611686018427387904) :
    Calls Try.prog 126 #[.slice (some ⟨g, 0, none⟩) zs.length cap] w fun e w' => e = .returned (.tuple #[]) ∧
      w'.ownsRow B E 1 (.slice (some ⟨g, 0, none⟩) zs.length cap) zs.length (vI (zs.mergeSort fun x y => decide (x ≤ y))) ∧ w.grownBy w' (some g) := by
  rcases h.2 with ⟨h0, _⟩ | ⟨g', cap', cur, hv, hB, hb, h1, h2, h3, h4⟩
  · cases h0
  · injection hv with e1 e2 e3
    injection e1 with e1
    injection e1 with e1 _
    subst e1 e3
    rw [Nat.mul_one] at h4
    have hcon := AnyM.slices_Sort_int sortLay g 0 cap zs w (holds_ints hb h4) (Array.getElem?_eq_some_iff.1 hb).1 hz
    change Calls Try.prog 126 _ _ _ at hcon
    refine hcon.mono ?_
    rintro e w' ⟨rfl, n, os, rfl⟩
    have hl : (zs.mergeSort fun x y => decide (x ≤ y)).length = zs.length := List.length_mergeSort _
    generalize (zs.mergeSort fun x y => decide (x ≤ y)) = ts at *
    refine ⟨rfl, ⟨by simp [vI, hl], .inr ⟨g, cap, _, rfl, hB, heap_sortedI _ hb, h1, h2, by simp [putCells, h3], ?_⟩⟩, grown_sortedI _⟩
    rw [Nat.mul_one, ← hl]
    exact take_putI cur ts (by omega)

end Go.Proofs.Ytogaellhkjjeaaa
