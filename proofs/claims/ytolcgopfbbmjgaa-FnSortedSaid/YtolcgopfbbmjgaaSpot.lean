/-
  Many own rows side by side, each in a block of its own.
-/
import Derived.Test.YtolcgopfbbmjgaaOwn
import Derived.Test.YtolcgopfbbmjgaaAppend
import Derived.Test.YtolcgopfbbmjgaaNst
namespace Go.Proofs.Ytolcgopfbbmjgaa
set_option linter.unusedVariables false
set_option linter.unusedSimpArgs false
open Go.RowKit

/-- A row: the type and the size of its elements, its header, how many there are, its cells. -/
structure Spot where
  E : TypeId
  sz : Nat
  v : Value
  n : Nat
  xs : List Value
/-- A row of numbers. -/
abbrev spI (v : Value) (l : List Int) : Spot := ⟨2, 1, v, l.length, vI l⟩
def Spot.none_ (E : TypeId) (sz : Nat) : Spot := ⟨E, sz, .slice none 0 0, 0, []⟩
def Spot.owned (s : Spot) (w : World) (B : Nat) : Prop := w.ownsRow B s.E s.sz s.v s.n s.xs
def putS (S : Nat → Spot) (p : Nat) (s : Spot) : Nat → Spot := fun j => if j = p then s else S j
theorem putS_same (S : Nat → Spot) (p : Nat) (s : Spot) : putS S p s p = s := if_pos rfl
theorem putS_ne {S : Nat → Spot} {p j : Nat} {s : Spot} (h : j ≠ p) : putS S p s j = S j := if_neg h
/-- The rows are the call's own (block B or later), no two in one block. -/
structure Spots (w : World) (B N : Nat) (S : Nat → Spot) : Prop where
  own : ∀ j, j < N → (S j).owned w B
  dis : ∀ i j g, i < N → j < N → i ≠ j → (S i).v.ownBlock = some g → (S j).v.ownBlock ≠ some g
theorem own_other {w w' : World} {base e sz n : Nat} {v : Value} {xs : List Value} {row : Option Nat} (h : w.ownsRow base e sz v n xs) (hg : w.grownBy w' row) (hd : ∀ g, v.ownBlock = some g → row ≠ some g) : w'.ownsRow base e sz v n xs := by
  refine ⟨h.1, ?_⟩
  rcases h.2 with h2 | ⟨g, cap, cur, hv, hb, hh, h3⟩
  · exact .inl h2
  · subst hv
    exact .inr ⟨g, cap, cur, rfl, hb, (hg.block g (Array.getElem?_eq_some_iff.1 hh).1 (fun e => hd g rfl e.symm)).trans hh, h3⟩
theorem own_far {w : World} {base e sz n : Nat} {v : Value} {xs : List Value} (h : w.ownsRow base e sz v n xs) {p : Addr} (hp : v.ownBlock ≠ some p.block) (u : Value) : (w.setCell p u).ownsRow base e sz v n xs := by
  refine ⟨h.1, ?_⟩
  rcases h.2 with h2 | ⟨g, cap, cur, hv, hb, hh, h3⟩
  · exact .inl h2
  · subst hv
    exact .inr ⟨g, cap, cur, rfl, hb, (Go.Deep.blk_setCell_other _ _ _ _ (fun e => hp (by rw [← e]; rfl))).trans hh, h3⟩
theorem row_slice {w : World} {B E sz n : Nat} {v : Value} {xs : List Value} (h : w.ownsRow B E sz v n xs) (hn : 0 < n) : ∃ b cap, v = .slice (some ⟨b, 0, none⟩) n cap ∧ B ≤ b ∧ b < w.heap.size ∧ n ≤ cap ∧ v.ownBlock = some b := by
  rcases h.2 with ⟨_, h0⟩ | ⟨b, cap, cur, rfl, hb, hh, hnc, _⟩
  · omega
  · exact ⟨b, cap, rfl, hb, (Array.getElem?_eq_some_iff.1 hh).1, hnc, rfl⟩
/-- A cell of an own row. -/
theorem own_cellx {w : World} {base e sz n g cap i : Nat} {xs : List Value} {u : Value} (h : w.ownsRow base e sz (.slice (some ⟨g, 0, none⟩) n cap) n xs) (hi : xs[i]? = some u) : w.cell? ⟨g, i, none⟩ = some u ∧ (∀ o, w.frozen? ⟨g, o, none⟩ = false) ∧ base ≤ g ∧ g < w.heap.size ∧ n ≤ cap := by
  have hil := (List.getElem?_eq_some_iff.1 hi).1
  have hl := h.1
  rcases h.2 with ⟨e, _⟩ | ⟨g', cap', cur, e, hb, hh, hn, hc, hs, hx⟩
  · cases e
  · injection e with e1 e2 e3
    injection e1 with e1
    injection e1 with e1 _
    subst e1 e3
    refine ⟨?_, fun o => frozen_of_row w g o cur _ hh, hb, (Array.getElem?_eq_some_iff.1 hh).1, hn⟩
    rw [cell_of_row w g i cur _ (0, 0) hh, ← Array.getElem?_toList, ← hi, ← hx, List.getElem?_take, if_pos (by omega)]
/-- A cell of an own row is written. -/
theorem own_setx {w : World} {base e sz n g cap i : Nat} {xs : List Value} (u : Value) (h : w.ownsRow base e sz (.slice (some ⟨g, 0, none⟩) n cap) n xs) (hi : i < n * sz) : (w.setCell ⟨g, i, none⟩ u).ownsRow base e sz (.slice (some ⟨g, 0, none⟩) n cap) n (xs.set i u) := by
  refine ⟨by rw [List.length_set]; exact h.1, ?_⟩
  rcases h.2 with ⟨e, _⟩ | ⟨g', cap', cur, e, hb, hh, hn, hc, hs, hx⟩
  · cases e
  · injection e with e1 e2 e3
    injection e1 with e1
    injection e1 with e1 _
    subst e1 e3
    have hle : n * sz ≤ cap * sz := Nat.mul_le_mul_right _ hn
    refine .inr ⟨g, cap, cur.setIfInBounds i u, rfl, hb, heap_setCell_same w g i cur _ u hh, hn, hc, by simpa using hs, ?_⟩
    rw [Array.toList_setIfInBounds, List.take_set, hx]
section
variable {w w' : World} {B N : Nat} {S : Nat → Spot}
theorem Spots.lt (h : Spots w B N S) {j : Nat} (hj : j < N) : ∀ g, (S j).v.ownBlock = some g → B ≤ g ∧ g < w.heap.size := World.ownsRow.lt (h.own j hj)
theorem Spots.below (h : Spots w B N S) (hb : Below w.heap.size w w') : Spots w' B N S := ⟨fun j hj => own_below (h.own j hj) hb, h.dis⟩
theorem Spots.alloc (h : Spots w B N S) (o : Obj) : Spots (w.alloc o) B N S := h.below ((Below.refl _ _).alloc (Nat.le_refl _) o)
theorem Spots.drew (h : Spots w B N S) : Spots w.drew B N S := ⟨fun j hj => h.own j hj, h.dis⟩
theorem Spots.congr {S' : Nat → Spot} (h : Spots w B N S) (e : ∀ j, j < N → S' j = S j) : Spots w B N S' :=
  ⟨fun j hj => by rw [e j hj]; exact h.own j hj, fun i j g hi hj hij hg => by rw [e i hi] at hg; rw [e j hj]; exact h.dis i j g hi hj hij hg⟩
/-- A row replaced by one that stands in its own block or in one of no other row. -/
theorem Spots.put (h : Spots w B N S) (p : Nat) (s : Spot) (hown : s.owned w B) (hat : ∀ g, s.v.ownBlock = some g → (p < N ∧ (S p).v.ownBlock = some g) ∨ ∀ j, j < N → j ≠ p → (S j).v.ownBlock ≠ some g) : Spots w B N (putS S p s) := by
  have hk : ∀ g j, j < N → j ≠ p → s.v.ownBlock = some g → (S j).v.ownBlock ≠ some g := fun g j hj hjp hg => by
    rcases hat g hg with ⟨h1, h2⟩ | h1
    · exact h.dis p j g h1 hj (fun e => hjp e.symm) h2
    · exact h1 j hj hjp
  refine ⟨fun j hj => ?_, fun i j g hi hj hij hg => ?_⟩
  · by_cases e : j = p
    · rw [e, putS_same]; exact hown
    · rw [putS_ne e]; exact h.own j hj
  · by_cases ei : i = p
    · rw [ei, putS_same] at hg
      rw [putS_ne (fun e => hij (ei.trans e.symm))]
      exact hk g j hj (fun e => hij (ei.trans e.symm)) hg
    · rw [putS_ne ei] at hg
      by_cases ej : j = p
      · rw [ej, putS_same]
        exact fun e => hk g i hi ei e hg
      · rw [putS_ne ej]
        exact h.dis i j g hi hj hij hg
/-- A row that has grown. -/
theorem Spots.app (h : Spots w B N S) {p : Nat} (hp : p < N) (s : Spot) (hown : s.owned w' B) (hg : w.grownBy w' (S p).v.ownBlock) (hat : s.v.ownBlock = (S p).v.ownBlock ∨ s.v.ownBlock = some w.heap.size) : Spots w' B N (putS S p s) := by
  refine ⟨fun j hj => ?_, fun i j g hi hj hij hgi => ?_⟩
  · by_cases e : j = p
    · rw [e, putS_same]; exact hown
    · rw [putS_ne e]
      exact own_other (h.own j hj) hg (fun g hgj hgp => h.dis j p g hj hp e hgj hgp)
  · by_cases ei : i = p
    · rw [ei, putS_same] at hgi
      have ej : j ≠ p := fun e => hij (ei.trans e.symm)
      rw [putS_ne ej]
      rcases hat with hat | hat
      · exact h.dis p j g hp hj (fun e => ej e.symm) (hat ▸ hgi)
      · rw [hat] at hgi
        injection hgi with hgi
        intro hgj
        have := (h.lt hj _ hgj).2
        omega
    · rw [putS_ne ei] at hgi
      by_cases ej : j = p
      · rw [ej, putS_same]
        rcases hat with hat | hat
        · rw [hat]; exact h.dis i p g hi hp ei hgi
        · rw [hat]
          intro hgj
          injection hgj with hgj
          have := (h.lt hi _ hgi).2
          omega
      · rw [putS_ne ej]
        exact h.dis i j g hi hj hij hgi
/-- One row more. -/
theorem Spots.add (h : Spots w B N S) (s : Spot) (hown : s.owned w B) (hat : ∀ g, s.v.ownBlock = some g → ∀ j, j < N → (S j).v.ownBlock ≠ some g) : Spots w B (N + 1) (putS S N s) := by
  refine ⟨fun j hj => ?_, fun i j g hi hj hij hg => ?_⟩
  · by_cases e : j = N
    · rw [e, putS_same]; exact hown
    · rw [putS_ne e]; exact h.own j (by omega)
  · by_cases ei : i = N
    · rw [ei, putS_same] at hg
      rw [putS_ne (fun e => hij (ei.trans e.symm))]
      exact hat g hg j (by omega)
    · rw [putS_ne ei] at hg
      by_cases ej : j = N
      · rw [ej, putS_same]
        exact fun e => hat g e i (by omega) hg
      · rw [putS_ne ej]
        exact h.dis i j g (by omega) (by omega) hij hg
theorem Spots.addNone (h : Spots w B N S) (E : TypeId) (sz : Nat) : Spots w B (N + 1) (putS S N (Spot.none_ E sz)) :=
  h.add _ (World.ownsRow_nil _ _ _ _) (fun g hg => by cases hg)
theorem Spots.putNone (h : Spots w B N S) (p : Nat) (E : TypeId) (sz : Nat) : Spots w B N (putS S p (Spot.none_ E sz)) :=
  h.put p _ (World.ownsRow_nil _ _ _ _) (fun g hg => by cases hg)
/-- A row of a world that only grew. -/
theorem Spots.putNew (h : Spots w B N S) (hb : Below w.heap.size w w') (p : Nat) (s : Spot) (hown : s.owned w' w.heap.size) (hB : B ≤ w.heap.size) : Spots w' B N (putS S p s) := by
  refine (h.below hb).put p s ⟨hown.1, ?_⟩ (fun g hg => .inr fun j hj _ e => ?_)
  · rcases hown.2 with h2 | ⟨g, cap, cur, hv, h3, h4⟩
    · exact .inl h2
    · exact .inr ⟨g, cap, cur, hv, by omega, h4⟩
  · have h1 := (World.ownsRow.lt hown g hg).1
    have h2 := (h.lt hj _ e).2
    omega
/-- A cell of one row that is written. -/
theorem Spots.setCell (h : Spots w B N S) {p g i : Nat} (hp : p < N) (hg : (S p).v.ownBlock = some g) (u : Value) (hi : i < (S p).n * (S p).sz) : Spots (w.setCell ⟨g, i, none⟩ u) B N (putS S p { S p with xs := (S p).xs.set i u }) := by
  refine ⟨fun j hj => ?_, fun a b k ha hb hab hk => ?_⟩
  · by_cases e : j = p
    · rw [e, putS_same]
      have h1 := h.own p hp
      refine ⟨by show (List.set _ _ _).length = _; rw [List.length_set]; exact h1.1, ?_⟩
      rcases h1.2 with ⟨h2, h3⟩ | ⟨g', cap, cur, hv, hb, hh, hn, hc, hs, hx⟩
      · rw [h2] at hg; cases hg
      · rw [hv] at hg
        injection hg with hg
        simp only at hg
        subst hg
        have hle : (S p).n * (S p).sz ≤ cap * (S p).sz := Nat.mul_le_mul_right _ hn
        refine .inr ⟨g', cap, cur.setIfInBounds i u, hv, hb, heap_setCell_same w g' i cur _ u hh, hn, hc, by simpa using hs, ?_⟩
        show (cur.setIfInBounds i u).toList.take ((S p).n * (S p).sz) = (S p).xs.set i u
        rw [Array.toList_setIfInBounds, List.take_set, hx]
    · rw [putS_ne e]
      exact own_far (h.own j hj) (fun e' => h.dis j p g hj hp e e' hg) u
  · have hv : ∀ j, (putS S p { S p with xs := (S p).xs.set i u } j).v = (S j).v := fun j => by
      by_cases e : j = p
      · rw [e, putS_same]
      · rw [putS_ne e]
    rw [hv] at hk ⊢
    exact h.dis a b k ha hb hab hk
/-- A cell that is no row's is written. -/
theorem Spots.far (h : Spots w B N S) {p : Addr} (hp : p.block < B) (u : Value) : Spots (w.setCell p u) B N S :=
  ⟨fun j hj => own_far (h.own j hj) (fun e => by have := (h.lt hj _ e).1; omega) u, h.dis⟩
end

/-- Where a row stands, as a window of at most one block. -/
def Spot.lo (s : Spot) (B : Nat) : Nat := s.v.ownBlock.getD B
def Spot.hi (s : Spot) (B : Nat) : Nat := match s.v.ownBlock with | some g => g + 1 | none => B
theorem Spots.owc {w : World} {B N : Nat} {S : Nat → Spot} (h : Spots w B N S) {j : Nat} (hj : j < N) : OwC w ((S j).lo B) ((S j).hi B) (S j).E (S j).sz (S j).v (S j).n (S j).xs := by
  have h1 := h.own j hj
  refine ⟨h1.1, ?_⟩
  rcases h1.2 with ⟨h2, h3⟩ | ⟨g, cap, cur, hv, hb, hh, h3⟩
  · exact .inl ⟨h3, none, 0, h2⟩
  · refine .inr ⟨g, cap, cur, hv, ?_, ?_, hh, h3⟩
    · unfold Spot.lo; rw [hv]; exact Nat.le_refl g
    · unfold Spot.hi; rw [hv]; exact Nat.lt_succ_self g
theorem Spots.window {w : World} {B N : Nat} {S : Nat → Spot} (h : Spots w B N S) (hB : B ≤ w.heap.size) {j : Nat} (hj : j < N) : B ≤ (S j).lo B ∧ (S j).hi B ≤ w.heap.size := by
  have h1 := h.lt hj
  unfold Spot.lo Spot.hi
  cases hv : (S j).v.ownBlock with
  | none => exact ⟨Nat.le_refl _, hB⟩
  | some g => have := h1 g hv; exact ⟨this.1, this.2⟩
theorem Spots.apart {w : World} {B N : Nat} {S : Nat → Spot} (h : Spots w B N S) {i j : Nat} (hi : i < N) (hj : j < N) (hij : i ≠ j) : (S i).hi B ≤ (S j).lo B ∨ (S j).hi B ≤ (S i).lo B := by
  unfold Spot.lo Spot.hi
  cases hv : (S i).v.ownBlock with
  | none =>
    cases hu : (S j).v.ownBlock with
    | none => exact .inl (Nat.le_refl _)
    | some g => have := (h.lt hj g hu).1; exact .inl this
  | some g =>
    have h1 := (h.lt hi g hv).1
    cases hu : (S j).v.ownBlock with
    | none => exact .inr h1
    | some k =>
      have : g ≠ k := fun e => h.dis i j g hi hj hij hv (by rw [hu, e])
      simp only [Option.getD_some]
      omega

end Go.Proofs.Ytolcgopfbbmjgaa
