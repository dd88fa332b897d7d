/-
  What the laws' marks do: markX writes numbers one after the other into a slice of the caller's own, heldX reads them again.
-/
import Derived.Test.YtolcgopfbbmjgaaInt
namespace Go.Proofs.Ytolcgopfbbmjgaa
set_option linter.unusedVariables false
set_option linter.unusedSimpArgs false
open Go.RowKit

/-- From 'w' to 'w'' only the blocks from lo on and below hi have turned, and new ones have come. -/
structure Only (lo hi : Nat) (w w' : World) : Prop where
  os : w'.os = w.os
  tape : w'.tape = w.tape
  output : w'.output = w.output
  size : w.heap.size ≤ w'.heap.size
  block : ∀ k, k < w.heap.size → (k < lo ∨ hi ≤ k) → w'.heap[k]? = w.heap[k]?

theorem Only.refl (lo hi : Nat) (w : World) : Only lo hi w w := ⟨rfl, rfl, rfl, Nat.le_refl _, fun _ _ _ => rfl⟩
theorem Only.trans {lo hi : Nat} {a b c : World} (h : Only lo hi a b) (k : Only lo hi b c) : Only lo hi a c :=
  ⟨k.os.trans h.os, k.tape.trans h.tape, k.output.trans h.output, Nat.le_trans h.size k.size, fun i h1 h2 => (k.block i (Nat.lt_of_lt_of_le h1 h.size) h2).trans (h.block i h1 h2)⟩
theorem Only.wide {lo hi lo' hi' : Nat} {a b : World} (h : Only lo hi a b) (h1 : lo' ≤ lo) (h2 : hi ≤ hi') : Only lo' hi' a b :=
  ⟨h.os, h.tape, h.output, h.size, fun i h3 h4 => h.block i h3 (by omega)⟩
theorem Only.setCell {lo hi : Nat} {a w : World} (h : Only lo hi a w) {p : Addr} (h1 : lo ≤ p.block) (h2 : p.block < hi) (u : Value) : Only lo hi a (w.setCell p u) :=
  h.trans ⟨rfl, rfl, rfl, by simp [World.setCell], fun k _ hk => Below.heap_setCell _ _ _ _ (by omega)⟩
theorem Only.of_below {lo hi : Nat} {a w : World} (h : Below a.heap.size a w) : Only lo hi a w := ⟨h.os, h.tape, h.output, h.size, fun k hk _ => h.block k hk⟩
theorem Only.alloc {lo hi : Nat} {a w : World} (h : Only lo hi a w) (o : Obj) : Only lo hi a (w.alloc o) :=
  h.trans (Only.of_below ((Below.refl _ _).alloc (Nat.le_refl _) o))
theorem Only.below {lo hi B : Nat} {a b : World} (h : Only lo hi a b) (hB : B ≤ lo) (hs : B ≤ a.heap.size) : Below B a b :=
  ⟨h.os, h.tape, h.output, h.size, fun k hk => h.block k (by omega) (.inl (by omega))⟩
theorem OwC.only {w w' : World} {lo hi l h E sz n : Nat} {v : Value} {xs : List Value} (ho : OwC w lo hi E sz v n xs) (hw : Only l h w w') (hd : hi ≤ l ∨ h ≤ lo) (hs : hi ≤ w.heap.size) : OwC w' lo hi E sz v n xs :=
  ho.keep fun g h1 h2 => hw.block g (by omega) (by omega)

theorem row_getD {cur : Array Value} {i : Nat} (h : i < cur.size) : cur[i]? = some (cur.getD i undef) := by simp [h]
/-- The marks from K on. -/
def vM (K : Int) (c : Nat) : List Value := (List.range c).map fun j : Nat => Value.int .i64 (K + (j : Int))
theorem vM_get {K : Int} {c j : Nat} {x : Int} (h : j < c) (hx : x = K + (j : Int)) : (vM K c)[j]? = some (.int .i64 x) := by simp [vM, h, hx]
theorem take_vM {K : Int} {c N : Nat} {cur : Array Value} {f : Nat → Value} (hc : c ≤ N) (h2 : cur.size = N) (h3 : ∀ i, i < N → cur[i]? = some (f i)) (hf : ∀ j, j < c → f j = .int .i64 (K + (j : Int))) : cur.toList.take c = vM K c := by
  apply List.ext_getElem?
  intro j
  rw [List.getElem?_take]
  by_cases hj : j < c
  · rw [if_pos hj, Array.getElem?_toList, h3 j (by omega), hf j hj, vM_get hj rfl]
  · rw [if_neg hj, List.getElem?_eq_none (by simp [vM]; omega)]

theorem mark_fill1 {K : Int} {f : Nat → Value} {k : Nat} (hf : ∀ j, j < k * 1 → f j = .int .i64 (K + (j : Int))) (j : Nat) (hj : j < (k + 1) * 1) : (fun j => (if j = k then Value.int .i64 (K + (k : Int)) else f j)) j = .int .i64 (K + (j : Int)) := by
  have hlast : ¬ (j = k * 1 + 0) → f j = .int .i64 (K + (j : Int)) := fun h => hf j (by omega)
  show (if j = k then Value.int .i64 (K + (k : Int)) else f j) = _
  (repeat' split)
  all_goals first
    | (congr 1; omega)
    | exact hlast (by omega)

theorem mark_fill6 {K : Int} {f : Nat → Value} {k : Nat} (hf : ∀ j, j < k * 6 → f j = .int .i64 (K + (j : Int))) (j : Nat) (hj : j < (k + 1) * 6) : (fun j => (if j = k * 6 + 5 then Value.int .i64 (K + (k : Int) * 6 + 1 + 1 + 1 + 1 + 1) else (if j = k * 6 + 4 then Value.int .i64 (K + (k : Int) * 6 + 1 + 1 + 1 + 1) else (if j = k * 6 + 3 then Value.int .i64 (K + (k : Int) * 6 + 1 + 1 + 1) else (if j = k * 6 + 2 then Value.int .i64 (K + (k : Int) * 6 + 1 + 1) else (if j = k * 6 + 1 then Value.int .i64 (K + (k : Int) * 6 + 1) else (if j = k * 6 then Value.int .i64 (K + (k : Int) * 6) else f j))))))) j = .int .i64 (K + (j : Int)) := by
  have hlast : ¬ (j = k * 6 + 0 ∨ j = k * 6 + 1 ∨ j = k * 6 + 2 ∨ j = k * 6 + 3 ∨ j = k * 6 + 4 ∨ j = k * 6 + 5) → f j = .int .i64 (K + (j : Int)) := fun h => hf j (by omega)
  show (if j = k * 6 + 5 then Value.int .i64 (K + (k : Int) * 6 + 1 + 1 + 1 + 1 + 1) else (if j = k * 6 + 4 then Value.int .i64 (K + (k : Int) * 6 + 1 + 1 + 1 + 1) else (if j = k * 6 + 3 then Value.int .i64 (K + (k : Int) * 6 + 1 + 1 + 1) else (if j = k * 6 + 2 then Value.int .i64 (K + (k : Int) * 6 + 1 + 1) else (if j = k * 6 + 1 then Value.int .i64 (K + (k : Int) * 6 + 1) else (if j = k * 6 then Value.int .i64 (K + (k : Int) * 6) else f j)))))) = _
  (repeat' split)
  all_goals first
    | (congr 1; omega)
    | exact hlast (by omega)

theorem mark_fill8 {K : Int} {f : Nat → Value} {k : Nat} (hf : ∀ j, j < k * 8 → f j = .int .i64 (K + (j : Int))) (j : Nat) (hj : j < (k + 1) * 8) : (fun j => (if j = k * 8 + 7 then Value.int .i64 (K + (k : Int) * 8 + 1 + 1 + 1 + 1 + 1 + 1 + 1) else (if j = k * 8 + 6 then Value.int .i64 (K + (k : Int) * 8 + 1 + 1 + 1 + 1 + 1 + 1) else (if j = k * 8 + 5 then Value.int .i64 (K + (k : Int) * 8 + 1 + 1 + 1 + 1 + 1) else (if j = k * 8 + 4 then Value.int .i64 (K + (k : Int) * 8 + 1 + 1 + 1 + 1) else (if j = k * 8 + 3 then Value.int .i64 (K + (k : Int) * 8 + 1 + 1 + 1) else (if j = k * 8 + 2 then Value.int .i64 (K + (k : Int) * 8 + 1 + 1) else (if j = k * 8 + 1 then Value.int .i64 (K + (k : Int) * 8 + 1) else (if j = k * 8 then Value.int .i64 (K + (k : Int) * 8) else f j))))))))) j = .int .i64 (K + (j : Int)) := by
  have hlast : ¬ (j = k * 8 + 0 ∨ j = k * 8 + 1 ∨ j = k * 8 + 2 ∨ j = k * 8 + 3 ∨ j = k * 8 + 4 ∨ j = k * 8 + 5 ∨ j = k * 8 + 6 ∨ j = k * 8 + 7) → f j = .int .i64 (K + (j : Int)) := fun h => hf j (by omega)
  show (if j = k * 8 + 7 then Value.int .i64 (K + (k : Int) * 8 + 1 + 1 + 1 + 1 + 1 + 1 + 1) else (if j = k * 8 + 6 then Value.int .i64 (K + (k : Int) * 8 + 1 + 1 + 1 + 1 + 1 + 1) else (if j = k * 8 + 5 then Value.int .i64 (K + (k : Int) * 8 + 1 + 1 + 1 + 1 + 1) else (if j = k * 8 + 4 then Value.int .i64 (K + (k : Int) * 8 + 1 + 1 + 1 + 1) else (if j = k * 8 + 3 then Value.int .i64 (K + (k : Int) * 8 + 1 + 1 + 1) else (if j = k * 8 + 2 then Value.int .i64 (K + (k : Int) * 8 + 1 + 1) else (if j = k * 8 + 1 then Value.int .i64 (K + (k : Int) * 8 + 1) else (if j = k * 8 then Value.int .i64 (K + (k : Int) * 8) else f j)))))))) = _
  (repeat' split)
  all_goals first
    | (congr 1; omega)
    | exact hlast (by omega)





end Go.Proofs.Ytolcgopfbbmjgaa
