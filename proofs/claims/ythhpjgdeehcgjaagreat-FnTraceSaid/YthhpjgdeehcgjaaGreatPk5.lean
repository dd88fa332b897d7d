/-
  Texts joined: Plc, Spot, Spt, Ms, Ms2, Mv, Do0, Ms3.
-/
import Derived.Test.YthhpjgdeehcgjaaGreatSm0
import Derived.Test.YthhpjgdeehcgjaaGreatOwn
import Derived.Test.YthhpjgdeehcgjaaGreatAppend
import Derived.Test.YthhpjgdeehcgjaaGreatNst
import Derived.Test.YthhpjgdeehcgjaaGreatPk2
import Derived.Test.YthhpjgdeehcgjaaGreatPk4
/-
  A needle's place, of program and reference.
-/
namespace Go.Proofs.YthhpjgdeehcgjaaGreat
set_option linter.unusedVariables false
set_option linter.unusedSimpArgs false
open Go.RowKit

/-- A needle's place. -/
def plc (b a r : Int) : Int := if b = 2 then a + r else a
theorem place_any (b a r : Int) (h0 : -100 ≤ a) (h1 : a ≤ 100) (h2 : -100 ≤ r) (h3 : r ≤ 100) (w : World) : Calls Tryz.prog 84 #[.agg #[.int .i64 b, .int .i64 a], .int .i64 r] w fun e w' => e = .returned (.int .i64 (plc b a r)) ∧ Below w.heap.size w w' := by
  unfold plc
  by_cases hb : b = 2
  · subst hb
    go_enter Tryz.func84, Tryz.ntmps84
    go_wp2
    go_ret
    exact ⟨ret_int (by simp), (Below.refl _ _).alloc (Nat.le_refl _) _⟩
  · have h2 : (b == 2) = false := by simpa using hb
    rw [if_neg hb]
    clear hb
    go_enter Tryz.func84, Tryz.ntmps84
    go_wp2
    go_ret
    exact ⟨rfl, (Below.refl _ _).alloc (Nat.le_refl _) _⟩
theorem l07Place_any (b a r : Int) (h0 : -100 ≤ a) (h1 : a ≤ 100) (h2 : -100 ≤ r) (h3 : r ≤ 100) (w : World) : Calls Tryz.prog 75 #[.agg #[.int .i64 b, .int .i64 a], .int .i64 r] w fun e w' => e = .returned (.int .i64 (plc b a r)) ∧ Below w.heap.size w w' := by
  unfold plc
  by_cases hb : b = 2
  · subst hb
    go_enter Tryz.func75, Tryz.ntmps75
    go_wp2
    go_ret
    exact ⟨ret_int (by simp), (Below.refl _ _).alloc (Nat.le_refl _) _⟩
  · have h2 : (b == 2) = false := by simpa using hb
    rw [if_neg hb]
    clear hb
    go_enter Tryz.func75, Tryz.ntmps75
    go_wp2
    go_ret
    exact ⟨rfl, (Below.refl _ _).alloc (Nat.le_refl _) _⟩

end Go.Proofs.YthhpjgdeehcgjaaGreat

/-
  Many own rows side by side, each in a block of its own.
-/
namespace Go.Proofs.YthhpjgdeehcgjaaGreat
set_option linter.unusedVariables false
set_option linter.unusedSimpArgs false
open Go.RowKit

/-- A row: the type and the size of its elements, its header, how many there are, its cells. -/
structure Spot where
  E : TypeId
  sz : Nat
  v : Value
  n : Nat
  xs : List Value
/-- A row of numbers. -/
abbrev spI (v : Value) (l : List Int) : Spot := ⟨2, 1, v, l.length, vI l⟩
def Spot.none_ (E : TypeId) (sz : Nat) : Spot := ⟨E, sz, .slice none 0 0, 0, []⟩
def Spot.owned (s : Spot) (w : World) (B : Nat) : Prop := w.ownsRow B s.E s.sz s.v s.n s.xs
def putS (S : Nat → Spot) (p : Nat) (s : Spot) : Nat → Spot := fun j => if j = p then s else S j
theorem putS_same (S : Nat → Spot) (p : Nat) (s : Spot) : putS S p s p = s := if_pos rfl
theorem putS_ne {S : Nat → Spot} {p j : Nat} {s : Spot} (h : j ≠ p) : putS S p s j = S j := if_neg h
/-- The rows are the call's own (block B or later), no two in one block. -/
structure Spots (w : World) (B N : Nat) (S : Nat → Spot) : Prop where
  own : ∀ j, j < N → (S j).owned w B
  dis : ∀ i j g, i < N → j < N → i ≠ j → (S i).v.ownBlock = some g → (S j).v.ownBlock ≠ some g
theorem own_other {w w' : World} {base e sz n : Nat} {v : Value} {xs : List Value} {row : Option Nat} (h : w.ownsRow base e sz v n xs) (hg : w.grownBy w' row) (hd : ∀ g, v.ownBlock = some g → row ≠ some g) : w'.ownsRow base e sz v n xs := by
  refine ⟨h.1, ?_⟩
  rcases h.2 with h2 | ⟨g, cap, cur, hv, hb, hh, h3⟩
  · exact .inl h2
  · subst hv
    exact .inr ⟨g, cap, cur, rfl, hb, (hg.block g (Array.getElem?_eq_some_iff.1 hh).1 (fun e => hd g rfl e.symm)).trans hh, h3⟩
theorem own_far {w : World} {base e sz n : Nat} {v : Value} {xs : List Value} (h : w.ownsRow base e sz v n xs) {p : Addr} (hp : v.ownBlock ≠ some p.block) (u : Value) : (w.setCell p u).ownsRow base e sz v n xs := by
  refine ⟨h.1, ?_⟩
  rcases h.2 with h2 | ⟨g, cap, cur, hv, hb, hh, h3⟩
  · exact .inl h2
  · subst hv
    exact .inr ⟨g, cap, cur, rfl, hb, (Go.Deep.blk_setCell_other _ _ _ _ (fun e => hp (by rw [← e]; rfl))).trans hh, h3⟩
theorem row_slice {w : World} {B E sz n : Nat} {v : Value} {xs : List Value} (h : w.ownsRow B E sz v n xs) (hn : 0 < n) : ∃ b cap, v = .slice (some ⟨b, 0, none⟩) n cap ∧ B ≤ b ∧ b < w.heap.size ∧ n ≤ cap ∧ v.ownBlock = some b := by
  rcases h.2 with ⟨_, h0⟩ | ⟨b, cap, cur, rfl, hb, hh, hnc, _⟩
  · omega
  · exact ⟨b, cap, rfl, hb, (Array.getElem?_eq_some_iff.1 hh).1, hnc, rfl⟩
/-- A cell of an own row. -/
theorem own_cellx {w : World} {base e sz n g cap i : Nat} {xs : List Value} {u : Value} (h : w.ownsRow base e sz (.slice (some ⟨g, 0, none⟩) n cap) n xs) (hi : xs[i]? = some u) : w.cell? ⟨g, i, none⟩ = some u ∧ (∀ o, w.frozen? ⟨g, o, none⟩ = false) ∧ base ≤ g ∧ g < w.heap.size ∧ n ≤ cap := by
  have hil := (List.getElem?_eq_some_iff.1 hi).1
  have hl := h.1
  rcases h.2 with ⟨e, _⟩ | ⟨g', cap', cur, e, hb, hh, hn, hc, hs, hx⟩
  · cases e
  · injection e with e1 e2 e3
    injection e1 with e1
    injection e1 with e1 _
    subst e1 e3
    refine ⟨?_, fun o => frozen_of_row w g o cur _ hh, hb, (Array.getElem?_eq_some_iff.1 hh).1, hn⟩
    rw [cell_of_row w g i cur _ (0, 0) hh, ← Array.getElem?_toList, ← hi, ← hx, List.getElem?_take, if_pos (by omega)]
/-- A cell of an own row is written. -/
theorem own_setx {w : World} {base e sz n g cap i : Nat} {xs : List Value} (u : Value) (h : w.ownsRow base e sz (.slice (some ⟨g, 0, none⟩) n cap) n xs) (hi : i < n * sz) : (w.setCell ⟨g, i, none⟩ u).ownsRow base e sz (.slice (some ⟨g, 0, none⟩) n cap) n (xs.set i u) := by
  refine ⟨by rw [List.length_set]; exact h.1, ?_⟩
  rcases h.2 with ⟨e, _⟩ | ⟨g', cap', cur, e, hb, hh, hn, hc, hs, hx⟩
  · cases e
  · injection e with e1 e2 e3
    injection e1 with e1
    injection e1 with e1 _
    subst e1 e3
    have hle : n * sz ≤ cap * sz := Nat.mul_le_mul_right _ hn
    refine .inr ⟨g, cap, cur.setIfInBounds i u, rfl, hb, heap_setCell_same w g i cur _ u hh, hn, hc, by simpa using hs, ?_⟩
    rw [Array.toList_setIfInBounds, List.take_set, hx]
section
variable {w w' : World} {B N : Nat} {S : Nat → Spot}
theorem Spots.lt (h : Spots w B N S) {j : Nat} (hj : j < N) : ∀ g, (S j).v.ownBlock = some g → B ≤ g ∧ g < w.heap.size := World.ownsRow.lt (h.own j hj)
theorem Spots.below (h : Spots w B N S) (hb : Below w.heap.size w w') : Spots w' B N S := ⟨fun j hj => own_below (h.own j hj) hb, h.dis⟩
theorem Spots.alloc (h : Spots w B N S) (o : Obj) : Spots (w.alloc o) B N S := h.below ((Below.refl _ _).alloc (Nat.le_refl _) o)
theorem Spots.drew (h : Spots w B N S) : Spots w.drew B N S := ⟨fun j hj => h.own j hj, h.dis⟩
theorem Spots.congr {S' : Nat → Spot} (h : Spots w B N S) (e : ∀ j, j < N → S' j = S j) : Spots w B N S' :=
  ⟨fun j hj => by rw [e j hj]; exact h.own j hj, fun i j g hi hj hij hg => by rw [e i hi] at hg; rw [e j hj]; exact h.dis i j g hi hj hij hg⟩
/-- A row replaced by one that stands in its own block or in one of no other row. -/
theorem Spots.put (h : Spots w B N S) (p : Nat) (s : Spot) (hown : s.owned w B) (hat : ∀ g, s.v.ownBlock = some g → (p < N ∧ (S p).v.ownBlock = some g) ∨ ∀ j, j < N → j ≠ p → (S j).v.ownBlock ≠ some g) : Spots w B N (putS S p s) := by
  have hk : ∀ g j, j < N → j ≠ p → s.v.ownBlock = some g → (S j).v.ownBlock ≠ some g := fun g j hj hjp hg => by
    rcases hat g hg with ⟨h1, h2⟩ | h1
    · exact h.dis p j g h1 hj (fun e => hjp e.symm) h2
    · exact h1 j hj hjp
  refine ⟨fun j hj => ?_, fun i j g hi hj hij hg => ?_⟩
  · by_cases e : j = p
    · rw [e, putS_same]; exact hown
    · rw [putS_ne e]; exact h.own j hj
  · by_cases ei : i = p
    · rw [ei, putS_same] at hg
      rw [putS_ne (fun e => hij (ei.trans e.symm))]
      exact hk g j hj (fun e => hij (ei.trans e.symm)) hg
    · rw [putS_ne ei] at hg
      by_cases ej : j = p
      · rw [ej, putS_same]
        exact fun e => hk g i hi ei e hg
      · rw [putS_ne ej]
        exact h.dis i j g hi hj hij hg
/-- A row that has grown. -/
theorem Spots.app (h : Spots w B N S) {p : Nat} (hp : p < N) (s : Spot) (hown : s.owned w' B) (hg : w.grownBy w' (S p).v.ownBlock) (hat : s.v.ownBlock = (S p).v.ownBlock ∨ s.v.ownBlock = some w.heap.size) : Spots w' B N (putS S p s) := by
  refine ⟨fun j hj => ?_, fun i j g hi hj hij hgi => ?_⟩
  · by_cases e : j = p
    · rw [e, putS_same]; exact hown
    · rw [putS_ne e]
      exact own_other (h.own j hj) hg (fun g hgj hgp => h.dis j p g hj hp e hgj hgp)
  · by_cases ei : i = p
    · rw [ei, putS_same] at hgi
      have ej : j ≠ p := fun e => hij (ei.trans e.symm)
      rw [putS_ne ej]
      rcases hat with hat | hat
      · exact h.dis p j g hp hj (fun e => ej e.symm) (hat ▸ hgi)
      · rw [hat] at hgi
        injection hgi with hgi
        intro hgj
        have := (h.lt hj _ hgj).2
        omega
    · rw [putS_ne ei] at hgi
      by_cases ej : j = p
      · rw [ej, putS_same]
        rcases hat with hat | hat
        · rw [hat]; exact h.dis i p g hi hp ei hgi
        · rw [hat]
          intro hgj
          injection hgj with hgj
          have := (h.lt hi _ hgi).2
          omega
      · rw [putS_ne ej]
        exact h.dis i j g hi hj hij hgi
/-- One row more. -/
theorem Spots.add (h : Spots w B N S) (s : Spot) (hown : s.owned w B) (hat : ∀ g, s.v.ownBlock = some g → ∀ j, j < N → (S j).v.ownBlock ≠ some g) : Spots w B (N + 1) (putS S N s) := by
  refine ⟨fun j hj => ?_, fun i j g hi hj hij hg => ?_⟩
  · by_cases e : j = N
    · rw [e, putS_same]; exact hown
    · rw [putS_ne e]; exact h.own j (by omega)
  · by_cases ei : i = N
    · rw [ei, putS_same] at hg
      rw [putS_ne (fun e => hij (ei.trans e.symm))]
      exact hat g hg j (by omega)
    · rw [putS_ne ei] at hg
      by_cases ej : j = N
      · rw [ej, putS_same]
        exact fun e => hat g e i (by omega) hg
      · rw [putS_ne ej]
        exact h.dis i j g (by omega) (by omega) hij hg
theorem Spots.putNone (h : Spots w B N S) (p : Nat) (E : TypeId) (sz : Nat) : Spots w B N (putS S p (Spot.none_ E sz)) :=
  h.put p _ (World.ownsRow_nil _ _ _ _) (fun g hg => by cases hg)
/-- A cell of one row that is written. -/
theorem Spots.setCell (h : Spots w B N S) {p g i : Nat} (hp : p < N) (hg : (S p).v.ownBlock = some g) (u : Value) (hi : i < (S p).n * (S p).sz) : Spots (w.setCell ⟨g, i, none⟩ u) B N (putS S p { S p with xs := (S p).xs.set i u }) := by
  refine ⟨fun j hj => ?_, fun a b k ha hb hab hk => ?_⟩
  · by_cases e : j = p
    · rw [e, putS_same]
      have h1 := h.own p hp
      refine ⟨by show (List.set _ _ _).length = _; rw [List.length_set]; exact h1.1, ?_⟩
      rcases h1.2 with ⟨h2, h3⟩ | ⟨g', cap, cur, hv, hb, hh, hn, hc, hs, hx⟩
      · rw [h2] at hg; cases hg
      · rw [hv] at hg
        injection hg with hg
        simp only at hg
        subst hg
        have hle : (S p).n * (S p).sz ≤ cap * (S p).sz := Nat.mul_le_mul_right _ hn
        refine .inr ⟨g', cap, cur.setIfInBounds i u, hv, hb, heap_setCell_same w g' i cur _ u hh, hn, hc, by simpa using hs, ?_⟩
        show (cur.setIfInBounds i u).toList.take ((S p).n * (S p).sz) = (S p).xs.set i u
        rw [Array.toList_setIfInBounds, List.take_set, hx]
    · rw [putS_ne e]
      exact own_far (h.own j hj) (fun e' => h.dis j p g hj hp e e' hg) u
  · have hv : ∀ j, (putS S p { S p with xs := (S p).xs.set i u } j).v = (S j).v := fun j => by
      by_cases e : j = p
      · rw [e, putS_same]
      · rw [putS_ne e]
    rw [hv] at hk ⊢
    exact h.dis a b k ha hb hab hk
/-- A cell that is no row's is written. -/
theorem Spots.far (h : Spots w B N S) {p : Addr} (hp : p.block < B) (u : Value) : Spots (w.setCell p u) B N S :=
  ⟨fun j hj => own_far (h.own j hj) (fun e => by have := (h.lt hj _ e).1; omega) u, h.dis⟩
end

/-- Where a row stands, as a window of at most one block. -/
def Spot.lo (s : Spot) (B : Nat) : Nat := s.v.ownBlock.getD B
def Spot.hi (s : Spot) (B : Nat) : Nat := match s.v.ownBlock with | some g => g + 1 | none => B
theorem Spots.window {w : World} {B N : Nat} {S : Nat → Spot} (h : Spots w B N S) (hB : B ≤ w.heap.size) {j : Nat} (hj : j < N) : B ≤ (S j).lo B ∧ (S j).hi B ≤ w.heap.size := by
  have h1 := h.lt hj
  unfold Spot.lo Spot.hi
  cases hv : (S j).v.ownBlock with
  | none => exact ⟨Nat.le_refl _, hB⟩
  | some g => have := h1 g hv; exact ⟨this.1, this.2⟩
theorem Spots.apart {w : World} {B N : Nat} {S : Nat → Spot} (h : Spots w B N S) {i j : Nat} (hi : i < N) (hj : j < N) (hij : i ≠ j) : (S i).hi B ≤ (S j).lo B ∨ (S j).hi B ≤ (S i).lo B := by
  unfold Spot.lo Spot.hi
  cases hv : (S i).v.ownBlock with
  | none =>
    cases hu : (S j).v.ownBlock with
    | none => exact .inl (Nat.le_refl _)
    | some g => have := (h.lt hj g hu).1; exact .inl this
  | some g =>
    have h1 := (h.lt hi g hv).1
    cases hu : (S j).v.ownBlock with
    | none => exact .inr h1
    | some k =>
      have : g ≠ k := fun e => h.dis i j g hi hj hij hv (by rw [hu, e])
      simp only [Option.getD_some]
      omega

end Go.Proofs.YthhpjgdeehcgjaaGreat

/-
  Own rows side by side, as many as are wanted.
-/
namespace Go.Proofs.YthhpjgdeehcgjaaGreat
set_option linter.unusedVariables false
set_option linter.unusedSimpArgs false
open Go.RowKit

theorem Spots.less {w : World} {B N M : Nat} {S : Nat → Spot} (h : Spots w B N S) (hM : M ≤ N) : Spots w B M S :=
  ⟨fun j hj => h.own j (by omega), fun i j g hi hj hij hg => h.dis i j g (by omega) (by omega) hij hg⟩
/-- The rows, one to each number. -/
def SpotsT (w : World) (B : Nat) (S : Nat → Spot) : Prop := ∀ N, Spots w B N S
section
variable {w w' : World} {B : Nat} {S : Nat → Spot}
theorem SpotsT.own (h : SpotsT w B S) (j : Nat) : (S j).owned w B := (h (j + 1)).own j (by omega)
theorem SpotsT.dis (h : SpotsT w B S) {i j g : Nat} (hij : i ≠ j) (hg : (S i).v.ownBlock = some g) : (S j).v.ownBlock ≠ some g := (h (i + j + 1)).dis i j g (by omega) (by omega) hij hg
theorem SpotsT.lt (h : SpotsT w B S) {j g : Nat} (hg : (S j).v.ownBlock = some g) : B ≤ g ∧ g < w.heap.size := World.ownsRow.lt (h.own j) g hg
theorem SpotsT.below (h : SpotsT w B S) (hb : Below w.heap.size w w') : SpotsT w' B S := fun N => (h N).below hb
theorem SpotsT.alloc (h : SpotsT w B S) (o : Obj) : SpotsT (w.alloc o) B S := fun N => (h N).alloc o
theorem SpotsT.drew (h : SpotsT w B S) : SpotsT w.drew B S := fun N => (h N).drew
theorem SpotsT.drewN (h : SpotsT w B S) (n : Nat) : SpotsT (w.drewN n) B S := fun N => ⟨fun j hj => (h N).own j hj, (h N).dis⟩
theorem SpotsT.app (h : SpotsT w B S) (p : Nat) (s : Spot) (hown : s.owned w' B) (hg : w.grownBy w' (S p).v.ownBlock) (hat : s.v.ownBlock = (S p).v.ownBlock ∨ s.v.ownBlock = some w.heap.size) : SpotsT w' B (putS S p s) :=
  fun N => ((h (N + p + 1)).app (by omega) s hown hg hat).less (by omega)
theorem SpotsT.put (h : SpotsT w B S) (p : Nat) (s : Spot) (hown : s.owned w B) (hat : ∀ g, s.v.ownBlock = some g → (S p).v.ownBlock = some g ∨ ∀ j, j ≠ p → (S j).v.ownBlock ≠ some g) : SpotsT w B (putS S p s) :=
  fun N => ((h (N + p + 1)).put p s hown (fun g hg => (hat g hg).elim (fun e => .inl ⟨by omega, e⟩) (fun e => .inr fun j _ hj => e j hj))).less (by omega)
theorem SpotsT.putNone (h : SpotsT w B S) (p : Nat) (E : TypeId) (sz : Nat) : SpotsT w B (putS S p (Spot.none_ E sz)) := fun N => (h N).putNone p E sz
theorem SpotsT.setCell (h : SpotsT w B S) {p g i : Nat} (hg : (S p).v.ownBlock = some g) (u : Value) (hi : i < (S p).n * (S p).sz) : SpotsT (w.setCell ⟨g, i, none⟩ u) B (putS S p { S p with xs := (S p).xs.set i u }) :=
  fun N => ((h (N + p + 1)).setCell (by omega) hg u hi).less (by omega)
theorem SpotsT.far (h : SpotsT w B S) {p : Addr} (hp : p.block < B) (u : Value) : SpotsT (w.setCell p u) B S := fun N => (h N).far hp u
/-- A cell outside of all rows. -/
theorem SpotsT.out (h : SpotsT w B S) {p : Addr} (hp : ∀ j, (S j).v.ownBlock ≠ some p.block) (u : Value) : SpotsT (w.setCell p u) B S :=
  fun N => ⟨fun j hj => own_far (h.own j) (hp j) u, (h N).dis⟩
/-- What stands outside of the rows changes: the rows stay. -/
theorem SpotsT.keep (h : SpotsT w B S) (hk : ∀ j g, (S j).v.ownBlock = some g → w'.heap[g]? = w.heap[g]?) : SpotsT w' B S := fun N => by
  refine ⟨fun j hj => ⟨(h.own j).1, ?_⟩, (h N).dis⟩
  rcases (h.own j).2 with h2 | ⟨g, cap, cur, hv, hb, hh, h3⟩
  · exact .inl h2
  · exact .inr ⟨g, cap, cur, hv, hb, (hk j g (by rw [hv]; rfl)).trans hh, h3⟩
end
/-- The rows that a world holds when it is opened: none. -/
theorem SpotsT.none_ (w : World) (B : Nat) (E : TypeId) (sz : Nat) : SpotsT w B (fun _ => Spot.none_ E sz) := fun N => ⟨fun j _ => World.ownsRow_nil _ _ _ _, fun i j g _ _ _ hg => by cases hg⟩
/-- What a row's cell holds. -/
theorem Spot.cell {s : Spot} {w : World} {B g i : Nat} {x : Value} (h : s.owned w B) (hg : s.v.ownBlock = some g) (hx : s.xs[i]? = some x) : w.cell? ⟨g, i, none⟩ = some x ∧ ∀ o, w.frozen? ⟨g, o, none⟩ = false := by
  have hi : i < s.xs.length := (List.getElem?_eq_some_iff.1 hx).1
  have hl := h.1
  rcases h.2 with ⟨hv, _⟩ | ⟨g', cap, cur, hv, hb, hh, hn, hc, hs, hxs⟩
  · rw [hv] at hg; cases hg
  · rw [hv] at hg
    injection hg with hg
    simp only at hg
    subst hg
    refine ⟨?_, fun o => frozen_of_row w g' o cur _ hh⟩
    rw [cell_of_row w g' i cur _ (0, 0) hh, ← Array.getElem?_toList, ← hx, ← hxs, List.getElem?_take, if_pos (by omega)]

end Go.Proofs.YthhpjgdeehcgjaaGreat

/-
  A machine of a call's own, which may be written: each of its rows in a block of its own.
-/
namespace Go.Proofs.YthhpjgdeehcgjaaGreat
set_option linter.unusedVariables false
set_option linter.unusedSimpArgs false
open Go.RowKit

def iF (k : Nat) : Nat := 3 * k + 6
def iB (k : Nat) : Nat := 3 * k + 7
def iP (k : Nat) : Nat := 3 * k + 8
/-- Row 0: the box at g; 1, 2: the beds; 3: the carriers; 4: the loops; 5: what was dropped; then the needles of the front, of the back, and the loops' parents. -/
structure MSt (w : World) (B g : Nat) (m : Mc) (S : Nat → Spot) : Prop where
  sp : SpotsT w B S
  box : S 0 = ⟨34, 7, .slice (some ⟨g, 0, none⟩) 1 1, 1, [.int .i64 m.wd, .int .i64 m.rk, (S 1).v, (S 2).v, (S 3).v, (S 4).v, (S 5).v]⟩
  fr : ∃ xs, S 1 = ⟨32, 1, (S 1).v, m.fr.length, xs⟩ ∧ ∀ k, k < m.fr.length → xs[k]? = some (S (iF k)).v
  bk : ∃ xs, S 2 = ⟨32, 1, (S 2).v, m.bk.length, xs⟩ ∧ ∀ k, k < m.bk.length → xs[k]? = some (S (iB k)).v
  cs : S 3 = ⟨86, 2, (S 3).v, m.cs.length, vS Car.cells m.cs⟩
  ls : ∃ xs, S 4 = ⟨50, 6, (S 4).v, m.ls.length, xs⟩ ∧ ∀ k x, m.ls[k]? = some x → ∀ j u, [Value.int .i64 x.k, .int .i64 x.y, .int .i64 x.b, .int .i64 x.p, .int .i64 x.d, (S (iP k)).v][j]? = some u → xs[k * 6 + j]? = some u
  dr : S 5 = spI (S 5).v m.dr
  fl : ∀ k l, m.fr[k]? = some l → S (iF k) = spI (S (iF k)).v l
  bl : ∀ k l, m.bk[k]? = some l → S (iB k) = spI (S (iB k)).v l
  pl : ∀ k x, m.ls[k]? = some x → S (iP k) = spI (S (iP k)).v x.ps

/-- A row of elements, each of which is read by R. -/
theorem RdN.of_row {α : Type} {R : World → Nat → List Value → α → Prop} {sz : Nat} {w : World} {B E : Nat} {v : Value} {l : List α} {xs : List Value} (h : w.ownsRow B E sz v l.length xs)
    (hx : ∀ k x, l[k]? = some x → ∃ us, us.length = sz ∧ (∀ j u, us[j]? = some u → xs[k * sz + j]? = some u) ∧ R w w.heap.size us x) : RdN R sz w w.heap.size v l := by
  obtain ⟨A, c, rfl, hn, hc⟩ := (OwC.of_own h).cells
  refine ⟨A, l.length, c, rfl, hn, rfl, fun k hk => ?_⟩
  obtain ⟨g, rfl, hg0, hg1, hfr, hcell⟩ := hc k hk
  have hxk : l[k]? = some l[k] := List.getElem?_eq_getElem hk
  obtain ⟨us, hu1, hu2, hu3⟩ := hx k _ hxk
  refine ⟨g, 0, l[k], us, rfl, by omega, hxk, hu1, fun j u hu => ?_, hu3⟩
  have hj : j < sz := by have := (List.getElem?_eq_some_iff.1 hu).1; omega
  have hlt : k * sz + j < l.length * sz := by
    have : (k + 1) * sz ≤ l.length * sz := Nat.mul_le_mul_right _ hk
    rw [Nat.add_mul] at this
    omega
  rw [Nat.zero_add]
  exact hcell _ u hlt (hu2 j u hu)
section
variable {w w' : World} {B g : Nat} {m : Mc} {S : Nat → Spot}
theorem MSt.below (h : MSt w B g m S) (hb : Below w.heap.size w w') : MSt w' B g m S := ⟨h.sp.below hb, h.box, h.fr, h.bk, h.cs, h.ls, h.dr, h.fl, h.bl, h.pl⟩
theorem MSt.drewN (h : MSt w B g m S) (n : Nat) : MSt (w.drewN n) B g m S := ⟨h.sp.drewN n, h.box, h.fr, h.bk, h.cs, h.ls, h.dr, h.fl, h.bl, h.pl⟩
theorem MSt.drew (h : MSt w B g m S) : MSt w.drew B g m S := ⟨h.sp.drew, h.box, h.fr, h.bk, h.cs, h.ls, h.dr, h.fl, h.bl, h.pl⟩
theorem MSt.keep (h : MSt w B g m S) (hk : ∀ j g, (S j).v.ownBlock = some g → w'.heap[g]? = w.heap[g]?) : MSt w' B g m S := ⟨h.sp.keep hk, h.box, h.fr, h.bk, h.cs, h.ls, h.dr, h.fl, h.bl, h.pl⟩
theorem spI_own {s : Spot} {v : Value} {l : List Int} (h : s.owned w B) (e : s = spI v l) : w.ownsRow B 2 1 v l.length (vI l) := by
  rw [e] at h
  exact h
theorem spI_rd {s : Spot} {v : Value} {l : List Int} (h : s.owned w B) (e : s = spI v l) : RdI w w.heap.size v l ∧ CapOk v :=
  ⟨RdI.of_own (OwC.of_own (spI_own h e)), (OwC.of_own (spI_own h e)).cap⟩
theorem MSt.owned (h : MSt w B g m S) {j : Nat} {E : TypeId} {sz n : Nat} {xs : List Value} (e : S j = ⟨E, sz, (S j).v, n, xs⟩) : w.ownsRow B E sz (S j).v n xs := by
  have h1 := h.sp.own j
  rw [e] at h1
  exact h1
theorem MSt.gbox (h : MSt w B g m S) : (S 0).v.ownBlock = some g := by rw [h.box]; rfl
theorem MSt.cells (h : MSt w B g m S) : CellsAt w g 0 [.int .i64 m.wd, .int .i64 m.rk, (S 1).v, (S 2).v, (S 3).v, (S 4).v, (S 5).v] := fun j u hu => by
  rw [Nat.zero_add]
  exact (Spot.cell (h.sp.own 0) h.gbox (by rw [h.box]; exact hu)).1
theorem MSt.frozen (h : MSt w B g m S) (o : Nat) : w.frozen? ⟨g, o, none⟩ = false :=
  (Spot.cell (s := S 0) (i := 0) (x := .int .i64 m.wd) (h.sp.own 0) h.gbox (by rw [h.box]; rfl)).2 o
/-- It is read behind its pointer. -/
theorem MSt.rd (h : MSt w B g m S) : RdP w g m := by
  refine ⟨_, _, _, _, _, h.cells, ?_, ?_, ?_, ?_, (spI_rd (h.sp.own 5) h.dr).1, (spI_rd (h.sp.own 5) h.dr).2⟩
  · obtain ⟨xs, e, hx⟩ := h.fr
    refine RdN.of_row (h.owned e) (fun k x hk => ⟨[(S (iF k)).v], rfl, fun j u hu => ?_, _, rfl, spI_rd (h.sp.own _) (h.fl k x hk)⟩)
    obtain rfl : j = 0 := by have := (List.getElem?_eq_some_iff.1 hu).1; simp at this; omega
    rw [Nat.mul_one, Nat.add_zero, hx k (List.getElem?_eq_some_iff.1 hk).1]
    exact hu
  · obtain ⟨xs, e, hx⟩ := h.bk
    refine RdN.of_row (h.owned e) (fun k x hk => ⟨[(S (iB k)).v], rfl, fun j u hu => ?_, _, rfl, spI_rd (h.sp.own _) (h.bl k x hk)⟩)
    obtain rfl : j = 0 := by have := (List.getElem?_eq_some_iff.1 hu).1; simp at this; omega
    rw [Nat.mul_one, Nat.add_zero, hx k (List.getElem?_eq_some_iff.1 hk).1]
    exact hu
  · exact RdS.of_own Car.len (OwC.of_own (h.owned h.cs))
  · obtain ⟨xs, e, hx⟩ := h.ls
    exact RdN.of_row (h.owned e) (fun k x hk => ⟨_, rfl, hx k x hk, _, rfl, spI_rd (h.sp.own _) (h.pl k x hk)⟩)
end

end Go.Proofs.YthhpjgdeehcgjaaGreat

/-
  What is written into a machine of a call's own.
-/
namespace Go.Proofs.YthhpjgdeehcgjaaGreat
set_option linter.unusedVariables false
set_option linter.unusedSimpArgs false
open Go.RowKit

section
variable {w w' : World} {B g : Nat} {m : Mc} {S : Nat → Spot}
theorem MSt.gF (h : MSt w B g m S) (hn : 0 < m.fr.length) : ∃ b cap, (S 1).v = .slice (some ⟨b, 0, none⟩) m.fr.length cap ∧ B ≤ b ∧ b < w.heap.size ∧ m.fr.length ≤ cap ∧ (S 1).v.ownBlock = some b := by
  obtain ⟨xs, e, _⟩ := h.fr
  exact row_slice (h.owned e) hn
theorem MSt.gB (h : MSt w B g m S) (hn : 0 < m.bk.length) : ∃ b cap, (S 2).v = .slice (some ⟨b, 0, none⟩) m.bk.length cap ∧ B ≤ b ∧ b < w.heap.size ∧ m.bk.length ≤ cap ∧ (S 2).v.ownBlock = some b := by
  obtain ⟨xs, e, _⟩ := h.bk
  exact row_slice (h.owned e) hn
theorem MSt.gC (h : MSt w B g m S) (hn : 0 < m.cs.length) : ∃ b cap, (S 3).v = .slice (some ⟨b, 0, none⟩) m.cs.length cap ∧ B ≤ b ∧ b < w.heap.size ∧ m.cs.length ≤ cap ∧ (S 3).v.ownBlock = some b := row_slice (h.owned h.cs) hn
/-- One needle's header, and its list. -/
theorem MSt.listF (h : MSt w B g m S) {k b : Nat} (hk : k < m.fr.length) (hb : (S 1).v.ownBlock = some b) : w.cell? ⟨b, k, none⟩ = some (S (iF k)).v ∧ (∀ o, w.frozen? ⟨b, o, none⟩ = false) ∧ S (iF k) = spI (S (iF k)).v m.fr[k] := by
  obtain ⟨xs, e, hx⟩ := h.fr
  obtain ⟨h1, h2⟩ := Spot.cell (h.sp.own 1) hb (x := (S (iF k)).v) (i := k) (by rw [e]; exact hx k hk)
  exact ⟨h1, h2, h.fl k _ (List.getElem?_eq_getElem hk)⟩
theorem MSt.listB (h : MSt w B g m S) {k b : Nat} (hk : k < m.bk.length) (hb : (S 2).v.ownBlock = some b) : w.cell? ⟨b, k, none⟩ = some (S (iB k)).v ∧ (∀ o, w.frozen? ⟨b, o, none⟩ = false) ∧ S (iB k) = spI (S (iB k)).v m.bk[k] := by
  obtain ⟨xs, e, hx⟩ := h.bk
  obtain ⟨h1, h2⟩ := Spot.cell (h.sp.own 2) hb (x := (S (iB k)).v) (i := k) (by rw [e]; exact hx k hk)
  exact ⟨h1, h2, h.bl k _ (List.getElem?_eq_getElem hk)⟩
/-- A needle of the front is given another list. -/
theorem MSt.setF {k b : Nat} {l' : List Int} {v' : Value} (h : MSt w B g m S) (hk : k < m.fr.length) (hb : (S 1).v.ownBlock = some b) (hsp : SpotsT w' B (putS S (iF k) (spI v' l'))) :
    MSt (w'.setCell ⟨b, k, none⟩ v') B g { m with fr := m.fr.set k l' } (putS (putS S (iF k) (spI v' l')) 1 { S 1 with xs := (S 1).xs.set k v' }) := by
  have hne : iF k ≠ 1 := by unfold iF; omega
  have e1 : putS S (iF k) (spI v' l') 1 = S 1 := putS_ne (fun e => hne e.symm)
  have hsz : k < (S 1).n * (S 1).sz := by obtain ⟨xs, e, _⟩ := h.fr; rw [e]; show k < m.fr.length * 1; omega
  have hsp2 := hsp.setCell (p := 1) (g := b) (i := k) (by rw [e1]; exact hb) v' (by rw [e1]; exact hsz)
  rw [e1] at hsp2
  have ev : ∀ j, j ≠ 1 → j ≠ iF k → (putS (putS S (iF k) (spI v' l')) 1 { S 1 with xs := (S 1).xs.set k v' }) j = S j := fun j h1 h2 => by rw [putS_ne h1, putS_ne h2]
  have ek : (putS (putS S (iF k) (spI v' l')) 1 { S 1 with xs := (S 1).xs.set k v' }) (iF k) = spI v' l' := by rw [putS_ne hne, putS_same]
  have e1' : (putS (putS S (iF k) (spI v' l')) 1 { S 1 with xs := (S 1).xs.set k v' }) 1 = { S 1 with xs := (S 1).xs.set k v' } := putS_same _ _ _
  refine ⟨hsp2, ?_, ?_, ?_, ?_, ?_, ?_, fun j l hl => ?_, fun j l hl => ?_, fun j x hx => ?_⟩
  · rw [ev 0 (by omega) (by unfold iF; omega), e1', ev 2 (by omega) (by unfold iF; omega), ev 3 (by omega) (by unfold iF; omega), ev 4 (by omega) (by unfold iF; omega), ev 5 (by omega) (by unfold iF; omega)]
    exact h.box
  · obtain ⟨xs, e, hx⟩ := h.fr
    refine ⟨(S 1).xs.set k v', ?_, fun j hj => ?_⟩
    · rw [e1']
      show (⟨(S 1).E, (S 1).sz, (S 1).v, (S 1).n, _⟩ : Spot) = ⟨_, _, (S 1).v, (m.fr.set k l').length, _⟩
      rw [List.length_set]
      have h1 : (S 1).E = 32 := by rw [e]
      have h2 : (S 1).sz = 1 := by rw [e]
      have h3 : (S 1).n = m.fr.length := by rw [e]
      rw [h1, h2, h3]
    · have hj' : j < m.fr.length := by simpa using hj
      have hxs : (S 1).xs = xs := by rw [e]
      have hxl : (S 1).xs.length = m.fr.length := by have := (h.owned e).1; rw [hxs, this]; omega
      by_cases hjk : j = k
      · rw [hjk, ek, List.getElem?_set_self (by omega)]
      · rw [ev _ (by unfold iF; omega) (by unfold iF; omega), List.getElem?_set_ne (fun e => hjk e.symm), hxs]
        exact hx j hj'
  · obtain ⟨xs, e, hx⟩ := h.bk
    rw [ev 2 (by omega) (by unfold iF; omega)]
    refine ⟨xs, e, fun j hj => ?_⟩
    rw [ev _ (by unfold iB; omega) (by unfold iB iF; omega)]
    exact hx j hj
  · rw [ev 3 (by omega) (by unfold iF; omega)]; exact h.cs
  · obtain ⟨xs, e, hx⟩ := h.ls
    rw [ev 4 (by omega) (by unfold iF; omega)]
    refine ⟨xs, e, fun j x hj => ?_⟩
    rw [ev _ (by unfold iP; omega) (by unfold iP iF; omega)]
    exact hx j x hj
  · rw [ev 5 (by omega) (by unfold iF; omega)]; exact h.dr
  · by_cases hjk : j = k
    · subst hjk
      have hl' : (m.fr.set j l')[j]? = some l := hl
      rw [List.getElem?_set_self hk] at hl'
      injection hl' with hl'
      subst hl'
      rw [ek]
    · have hl' : (m.fr.set k l')[j]? = some l := hl
      rw [List.getElem?_set_ne (fun e => hjk e.symm)] at hl'
      rw [ev _ (by unfold iF; omega) (by unfold iF; omega)]
      exact h.fl j l hl'
  · rw [ev _ (by unfold iB; omega) (by unfold iB iF; omega)]; exact h.bl j l hl
  · rw [ev _ (by unfold iP; omega) (by unfold iP iF; omega)]; exact h.pl j x hx
/-- A needle of the back is given another list. -/
theorem MSt.setB {k b : Nat} {l' : List Int} {v' : Value} (h : MSt w B g m S) (hk : k < m.bk.length) (hb : (S 2).v.ownBlock = some b) (hsp : SpotsT w' B (putS S (iB k) (spI v' l'))) :
    MSt (w'.setCell ⟨b, k, none⟩ v') B g { m with bk := m.bk.set k l' } (putS (putS S (iB k) (spI v' l')) 2 { S 2 with xs := (S 2).xs.set k v' }) := by
  have hne : iB k ≠ 2 := by unfold iB; omega
  have e1 : putS S (iB k) (spI v' l') 2 = S 2 := putS_ne (fun e => hne e.symm)
  have hsz : k < (S 2).n * (S 2).sz := by obtain ⟨xs, e, _⟩ := h.bk; rw [e]; show k < m.bk.length * 1; omega
  have hsp2 := hsp.setCell (p := 2) (g := b) (i := k) (by rw [e1]; exact hb) v' (by rw [e1]; exact hsz)
  rw [e1] at hsp2
  have ev : ∀ j, j ≠ 2 → j ≠ iB k → (putS (putS S (iB k) (spI v' l')) 2 { S 2 with xs := (S 2).xs.set k v' }) j = S j := fun j h1 h2 => by rw [putS_ne h1, putS_ne h2]
  have ek : (putS (putS S (iB k) (spI v' l')) 2 { S 2 with xs := (S 2).xs.set k v' }) (iB k) = spI v' l' := by rw [putS_ne hne, putS_same]
  have e1' : (putS (putS S (iB k) (spI v' l')) 2 { S 2 with xs := (S 2).xs.set k v' }) 2 = { S 2 with xs := (S 2).xs.set k v' } := putS_same _ _ _
  refine ⟨hsp2, ?_, ?_, ?_, ?_, ?_, ?_, fun j l hl => ?_, fun j l hl => ?_, fun j x hx => ?_⟩
  · rw [ev 0 (by omega) (by unfold iB; omega), e1', ev 1 (by omega) (by unfold iB; omega), ev 3 (by omega) (by unfold iB; omega), ev 4 (by omega) (by unfold iB; omega), ev 5 (by omega) (by unfold iB; omega)]
    exact h.box
  · obtain ⟨xs, e, hx⟩ := h.fr
    rw [ev 1 (by omega) (by unfold iB; omega)]
    refine ⟨xs, e, fun j hj => ?_⟩
    rw [ev _ (by unfold iF; omega) (by unfold iF iB; omega)]
    exact hx j hj
  · obtain ⟨xs, e, hx⟩ := h.bk
    refine ⟨(S 2).xs.set k v', ?_, fun j hj => ?_⟩
    · rw [e1']
      show (⟨(S 2).E, (S 2).sz, (S 2).v, (S 2).n, _⟩ : Spot) = ⟨_, _, (S 2).v, (m.bk.set k l').length, _⟩
      rw [List.length_set]
      have h1 : (S 2).E = 32 := by rw [e]
      have h2 : (S 2).sz = 1 := by rw [e]
      have h3 : (S 2).n = m.bk.length := by rw [e]
      rw [h1, h2, h3]
    · have hj' : j < m.bk.length := by simpa using hj
      have hxs : (S 2).xs = xs := by rw [e]
      have hxl : (S 2).xs.length = m.bk.length := by have := (h.owned e).1; rw [hxs, this]; omega
      by_cases hjk : j = k
      · rw [hjk, ek, List.getElem?_set_self (by omega)]
      · rw [ev _ (by unfold iB; omega) (by unfold iB; omega), List.getElem?_set_ne (fun e => hjk e.symm), hxs]
        exact hx j hj'
  · rw [ev 3 (by omega) (by unfold iB; omega)]; exact h.cs
  · obtain ⟨xs, e, hx⟩ := h.ls
    rw [ev 4 (by omega) (by unfold iB; omega)]
    refine ⟨xs, e, fun j x hj => ?_⟩
    rw [ev _ (by unfold iP; omega) (by unfold iP iB; omega)]
    exact hx j x hj
  · rw [ev 5 (by omega) (by unfold iB; omega)]; exact h.dr
  · rw [ev _ (by unfold iF; omega) (by unfold iF iB; omega)]; exact h.fl j l hl
  · by_cases hjk : j = k
    · subst hjk
      have hl' : (m.bk.set j l')[j]? = some l := hl
      rw [List.getElem?_set_self hk] at hl'
      injection hl' with hl'
      subst hl'
      rw [ek]
    · have hl' : (m.bk.set k l')[j]? = some l := hl
      rw [List.getElem?_set_ne (fun e => hjk e.symm)] at hl'
      rw [ev _ (by unfold iB; omega) (by unfold iB; omega)]
      exact h.bl j l hl'
  · rw [ev _ (by unfold iP; omega) (by unfold iP iB; omega)]; exact h.pl j x hx
/-- The rack is set. -/
theorem MSt.setRk {r : Int} (h : MSt w B g m S) : MSt (w.setCell ⟨g, 1, none⟩ (.int .i64 r)) B g { m with rk := r } (putS S 0 { S 0 with xs := (S 0).xs.set 1 (.int .i64 r) }) := by
  have hsp := h.sp.setCell (p := 0) (g := g) (i := 1) h.gbox (.int .i64 r) (by rw [h.box]; simp)
  have ev : ∀ j, j ≠ 0 → (putS S 0 { S 0 with xs := (S 0).xs.set 1 (.int .i64 r) }) j = S j := fun j h1 => putS_ne h1
  refine ⟨hsp, ?_, ?_, ?_, ?_, ?_, ?_, fun j l hl => ?_, fun j l hl => ?_, fun j x hx => ?_⟩
  · rw [putS_same, ev 1 (by omega), ev 2 (by omega), ev 3 (by omega), ev 4 (by omega), ev 5 (by omega), h.box]
    rfl
  · rw [ev 1 (by omega)]
    obtain ⟨xs, e, hx⟩ := h.fr
    exact ⟨xs, e, fun j hj => by rw [ev _ (by unfold iF; omega)]; exact hx j hj⟩
  · rw [ev 2 (by omega)]
    obtain ⟨xs, e, hx⟩ := h.bk
    exact ⟨xs, e, fun j hj => by rw [ev _ (by unfold iB; omega)]; exact hx j hj⟩
  · rw [ev 3 (by omega)]; exact h.cs
  · rw [ev 4 (by omega)]
    obtain ⟨xs, e, hx⟩ := h.ls
    exact ⟨xs, e, fun j x hj => by rw [ev _ (by unfold iP; omega)]; exact hx j x hj⟩
  · rw [ev 5 (by omega)]; exact h.dr
  · rw [ev _ (by unfold iF; omega)]; exact h.fl j l hl
  · rw [ev _ (by unfold iB; omega)]; exact h.bl j l hl
  · rw [ev _ (by unfold iP; omega)]; exact h.pl j x hx
/-- The cells of the carriers are written: they are another list's. -/
theorem MSt.setCs {cs' : List Car} {xs' : List Value} (h : MSt w B g m S) (hl : cs'.length = m.cs.length) (hx : xs' = vS Car.cells cs') (hsp : SpotsT w' B (putS S 3 { S 3 with xs := xs' })) : MSt w' B g { m with cs := cs' } (putS S 3 { S 3 with xs := xs' }) := by
  subst hx
  have ev : ∀ j, j ≠ 3 → (putS S 3 { S 3 with xs := vS Car.cells cs' }) j = S j := fun j h1 => putS_ne h1
  refine ⟨hsp, ?_, ?_, ?_, ?_, ?_, ?_, fun j l hl => ?_, fun j l hl => ?_, fun j x hx => ?_⟩
  · rw [ev 0 (by omega), ev 1 (by omega), ev 2 (by omega), putS_same, ev 4 (by omega), ev 5 (by omega)]
    exact h.box
  · rw [ev 1 (by omega)]
    obtain ⟨xs, e, hx⟩ := h.fr
    exact ⟨xs, e, fun j hj => by rw [ev _ (by unfold iF; omega)]; exact hx j hj⟩
  · rw [ev 2 (by omega)]
    obtain ⟨xs, e, hx⟩ := h.bk
    exact ⟨xs, e, fun j hj => by rw [ev _ (by unfold iB; omega)]; exact hx j hj⟩
  · rw [putS_same]
    show (⟨(S 3).E, (S 3).sz, (S 3).v, (S 3).n, _⟩ : Spot) = ⟨_, _, (S 3).v, cs'.length, _⟩
    have h1 : (S 3).E = 86 := by rw [h.cs]
    have h2 : (S 3).sz = 2 := by rw [h.cs]
    have h3 : (S 3).n = m.cs.length := by rw [h.cs]
    rw [h1, h2, h3, hl]
  · rw [ev 4 (by omega)]
    obtain ⟨xs, e, hx⟩ := h.ls
    exact ⟨xs, e, fun j x hj => by rw [ev _ (by unfold iP; omega)]; exact hx j x hj⟩
  · rw [ev 5 (by omega)]; exact h.dr
  · rw [ev _ (by unfold iF; omega)]; exact h.fl j l hl
  · rw [ev _ (by unfold iB; omega)]; exact h.bl j l hl
  · rw [ev _ (by unfold iP; omega)]; exact h.pl j x hx
/-- What was dropped is another list. -/
theorem MSt.setDr {v' : Value} {l' : List Int} (h : MSt w B g m S) (hsp : SpotsT w' B (putS S 5 (spI v' l'))) : MSt (w'.setCell ⟨g, 6, none⟩ v') B g { m with dr := l' } (putS (putS S 5 (spI v' l')) 0 { S 0 with xs := (S 0).xs.set 6 v' }) := by
  have e0 : putS S 5 (spI v' l') 0 = S 0 := putS_ne (by omega)
  have hsp2 := hsp.setCell (p := 0) (g := g) (i := 6) (by rw [e0]; exact h.gbox) v' (by rw [e0, h.box]; simp)
  rw [e0] at hsp2
  have ev : ∀ j, j ≠ 0 → j ≠ 5 → (putS (putS S 5 (spI v' l')) 0 { S 0 with xs := (S 0).xs.set 6 v' }) j = S j := fun j h1 h2 => by rw [putS_ne h1, putS_ne h2]
  have e5 : (putS (putS S 5 (spI v' l')) 0 { S 0 with xs := (S 0).xs.set 6 v' }) 5 = spI v' l' := by rw [putS_ne (by omega), putS_same]
  refine ⟨hsp2, ?_, ?_, ?_, ?_, ?_, ?_, fun j l hl => ?_, fun j l hl => ?_, fun j x hx => ?_⟩
  · rw [putS_same, ev 1 (by omega) (by omega), ev 2 (by omega) (by omega), ev 3 (by omega) (by omega), ev 4 (by omega) (by omega), e5, h.box]
    rfl
  · rw [ev 1 (by omega) (by omega)]
    obtain ⟨xs, e, hx⟩ := h.fr
    exact ⟨xs, e, fun j hj => by rw [ev _ (by unfold iF; omega) (by unfold iF; omega)]; exact hx j hj⟩
  · rw [ev 2 (by omega) (by omega)]
    obtain ⟨xs, e, hx⟩ := h.bk
    exact ⟨xs, e, fun j hj => by rw [ev _ (by unfold iB; omega) (by unfold iB; omega)]; exact hx j hj⟩
  · rw [ev 3 (by omega) (by omega)]; exact h.cs
  · rw [ev 4 (by omega) (by omega)]
    obtain ⟨xs, e, hx⟩ := h.ls
    exact ⟨xs, e, fun j x hj => by rw [ev _ (by unfold iP; omega) (by unfold iP; omega)]; exact hx j x hj⟩
  · rw [e5]
  · rw [ev _ (by unfold iF; omega) (by unfold iF; omega)]; exact h.fl j l hl
  · rw [ev _ (by unfold iB; omega) (by unfold iB; omega)]; exact h.bl j l hl
  · rw [ev _ (by unfold iP; omega) (by unfold iP; omega)]; exact h.pl j x hx
/-- A loop more: its parents' row stands already, the row of loops has grown; the box is told. -/
theorem MSt.addL {x : Inf} {vp vl : Value} {xs xs' : List Value} (h : MSt w B g m S) (e4 : S 4 = ⟨50, 6, (S 4).v, m.ls.length, xs⟩) (hxs : xs' = xs ++ [.int .i64 x.k, .int .i64 x.y, .int .i64 x.b, .int .i64 x.p, .int .i64 x.d, vp])
    (hsp : SpotsT w' B (putS (putS S (iP m.ls.length) (spI vp x.ps)) 4 ⟨50, 6, vl, m.ls.length + 1, xs'⟩)) :
    MSt (w'.setCell ⟨g, 5, none⟩ vl) B g { m with ls := m.ls ++ [x] } (putS (putS (putS S (iP m.ls.length) (spI vp x.ps)) 4 ⟨50, 6, vl, m.ls.length + 1, xs'⟩) 0 { S 0 with xs := (S 0).xs.set 5 vl }) := by
  have hp : iP m.ls.length ≠ 0 ∧ iP m.ls.length ≠ 1 ∧ iP m.ls.length ≠ 2 ∧ iP m.ls.length ≠ 3 ∧ iP m.ls.length ≠ 4 ∧ iP m.ls.length ≠ 5 := by unfold iP; omega
  have e0 : (putS (putS S (iP m.ls.length) (spI vp x.ps)) 4 ⟨50, 6, vl, m.ls.length + 1, xs'⟩) 0 = S 0 := by rw [putS_ne (by omega), putS_ne (by omega)]
  have hsp2 := hsp.setCell (p := 0) (g := g) (i := 5) (by rw [e0]; exact h.gbox) vl (by rw [e0, h.box]; simp)
  rw [e0] at hsp2
  generalize hS' : (putS (putS (putS S (iP m.ls.length) (spI vp x.ps)) 4 ⟨50, 6, vl, m.ls.length + 1, xs'⟩) 0 { S 0 with xs := (S 0).xs.set 5 vl }) = S' at hsp2
  have ev : ∀ j, j ≠ 0 → j ≠ 4 → j ≠ iP m.ls.length → S' j = S j := fun j h1 h2 h3 => by rw [← hS', putS_ne h1, putS_ne h2, putS_ne h3]
  have ez : S' 0 = { S 0 with xs := (S 0).xs.set 5 vl } := by rw [← hS', putS_same]
  have e4' : S' 4 = ⟨50, 6, vl, m.ls.length + 1, xs'⟩ := by rw [← hS', putS_ne (by omega), putS_same]
  have ep : S' (iP m.ls.length) = spI vp x.ps := by rw [← hS', putS_ne (by omega), putS_ne (by omega), putS_same]
  have hxl : xs.length = m.ls.length * 6 := by have := (h.owned e4).1; exact this
  refine ⟨hsp2, ?_, ?_, ?_, ?_, ?_, ?_, fun j l hl => ?_, fun j l hl => ?_, fun j y hy => ?_⟩
  · rw [ez, ev 1 (by omega) (by omega) (by omega), ev 2 (by omega) (by omega) (by omega), ev 3 (by omega) (by omega) (by omega), e4', ev 5 (by omega) (by omega) (by omega), h.box]
    rfl
  · rw [ev 1 (by omega) (by omega) (by omega)]
    obtain ⟨ys, e, hx⟩ := h.fr
    exact ⟨ys, e, fun j hj => by rw [ev _ (by unfold iF; omega) (by unfold iF; omega) (by unfold iF iP; omega)]; exact hx j hj⟩
  · rw [ev 2 (by omega) (by omega) (by omega)]
    obtain ⟨ys, e, hx⟩ := h.bk
    exact ⟨ys, e, fun j hj => by rw [ev _ (by unfold iB; omega) (by unfold iB; omega) (by unfold iB iP; omega)]; exact hx j hj⟩
  · rw [ev 3 (by omega) (by omega) (by omega)]; exact h.cs
  · obtain ⟨ys, e, hx⟩ := h.ls
    have hys : ys = xs := by rw [e4] at e; injection e with _ _ _ _ h5; exact h5.symm
    subst hys
    refine ⟨xs', by rw [e4']; simp, fun j y hy i u hu => ?_⟩
    have hi : i < 6 := (List.getElem?_eq_some_iff.1 hu).1
    by_cases hj : j < m.ls.length
    · have hy' : (m.ls ++ [x])[j]? = some y := hy
      rw [List.getElem?_append_left hj] at hy'
      rw [ev _ (by unfold iP; omega) (by unfold iP; omega) (by unfold iP; omega)] at hu
      rw [hxs, List.getElem?_append_left (by omega)]
      exact hx j y hy' i u hu
    · have hj2 : j = m.ls.length := by have := (List.getElem?_eq_some_iff.1 hy).1; simp at this; omega
      subst hj2
      have hy' : (m.ls ++ [x])[m.ls.length]? = some y := hy
      rw [List.getElem?_append_right (Nat.le_refl _), Nat.sub_self] at hy'
      injection hy' with hy'
      subst hy'
      rw [ep] at hu
      rw [hxs, List.getElem?_append_right (by omega), hxl, show m.ls.length * 6 + i - m.ls.length * 6 = i by omega]
      exact hu
  · rw [ev 5 (by omega) (by omega) (by omega)]; exact h.dr
  · rw [ev _ (by unfold iF; omega) (by unfold iF; omega) (by unfold iF iP; omega)]; exact h.fl j l hl
  · rw [ev _ (by unfold iB; omega) (by unfold iB; omega) (by unfold iB iP; omega)]; exact h.bl j l hl
  · by_cases hj : j < m.ls.length
    · have hy' : (m.ls ++ [x])[j]? = some y := hy
      rw [List.getElem?_append_left hj] at hy'
      rw [ev _ (by unfold iP; omega) (by unfold iP; omega) (by unfold iP; omega)]
      exact h.pl j y hy'
    · have hj2 : j = m.ls.length := by have := (List.getElem?_eq_some_iff.1 hy).1; simp at this; omega
      subst hj2
      have hy' : (m.ls ++ [x])[m.ls.length]? = some y := hy
      rw [List.getElem?_append_right (Nat.le_refl _), Nat.sub_self] at hy'
      injection hy' with hy'
      subst hy'
      rw [ep]
end

end Go.Proofs.YthhpjgdeehcgjaaGreat

/-
  What moves while the rows of one machine are written: only their own blocks, and new ones.
-/
namespace Go.Proofs.YthhpjgdeehcgjaaGreat
set_option linter.unusedVariables false
set_option linter.unusedSimpArgs false
open Go.RowKit

/-- Only the blocks in T may have changed; new ones may have come. -/
structure OnlyT (T : Nat → Prop) (w w' : World) : Prop where
  os : w'.os = w.os
  tape : w'.tape = w.tape
  output : w'.output = w.output
  size : w.heap.size ≤ w'.heap.size
  block : ∀ k, k < w.heap.size → ¬ T k → w'.heap[k]? = w.heap[k]?
/-- The blocks of rows. -/
def blk (S : Nat → Spot) (k : Nat) : Prop := ∃ j, (S j).v.ownBlock = some k

section
variable {T T' : Nat → Prop} {a b c w w' : World}
theorem OnlyT.refl (T : Nat → Prop) (w : World) : OnlyT T w w := ⟨rfl, rfl, rfl, Nat.le_refl _, fun _ _ _ => rfl⟩
theorem OnlyT.trans (h : OnlyT T a b) (k : OnlyT T b c) : OnlyT T a c :=
  ⟨k.os.trans h.os, k.tape.trans h.tape, k.output.trans h.output, Nat.le_trans h.size k.size, fun i h1 h2 => (k.block i (Nat.lt_of_lt_of_le h1 h.size) h2).trans (h.block i h1 h2)⟩
/-- The second step may write more, if that is new to the first world. -/
theorem OnlyT.trans' (h : OnlyT T a b) (k : OnlyT T' b c) (ht : ∀ i, T' i → T i ∨ a.heap.size ≤ i) : OnlyT T a c :=
  ⟨k.os.trans h.os, k.tape.trans h.tape, k.output.trans h.output, Nat.le_trans h.size k.size, fun i h1 h2 => (k.block i (Nat.lt_of_lt_of_le h1 h.size) (fun e => by
    rcases ht i e with h3 | h3
    · exact h2 h3
    · omega)).trans (h.block i h1 h2)⟩
theorem OnlyT.wide (h : OnlyT T a b) (ht : ∀ i, i < a.heap.size → T i → T' i) : OnlyT T' a b := ⟨h.os, h.tape, h.output, h.size, fun i h1 h2 => h.block i h1 (fun e => h2 (ht i h1 e))⟩
theorem OnlyT.of_below (h : Below a.heap.size a b) : OnlyT T a b := ⟨h.os, h.tape, h.output, h.size, fun k hk _ => h.block k hk⟩
theorem OnlyT.below {B : Nat} (h : OnlyT T a b) (hT : ∀ i, T i → B ≤ i) (hB : B ≤ a.heap.size) : Below B a b := ⟨h.os, h.tape, h.output, h.size, fun k hk => h.block k (by omega) (fun e => by have := hT k e; omega)⟩
theorem OnlyT.alloc (h : OnlyT T a b) (o : Obj) : OnlyT T a (b.alloc o) := h.trans (OnlyT.of_below ((Below.refl _ _).alloc (Nat.le_refl _) o))
theorem OnlyT.drew (h : OnlyT T a b) : OnlyT T a b.drew := ⟨h.os, h.tape, h.output, h.size, h.block⟩
theorem OnlyT.drewN (h : OnlyT T a b) (n : Nat) : OnlyT T a (b.drewN n) := ⟨h.os, h.tape, h.output, h.size, h.block⟩
theorem OnlyT.setCell (h : OnlyT T a b) {p : Addr} (hp : T p.block ∨ a.heap.size ≤ p.block) (u : Value) : OnlyT T a (b.setCell p u) :=
  ⟨h.os, h.tape, h.output, by simpa [World.setCell] using h.size, fun k hk ht => (Below.heap_setCell _ _ _ _ (fun e => by subst e; rcases hp with hp | hp; exact ht hp; omega)).trans (h.block k hk ht)⟩
theorem OnlyT.grown {row : Option Nat} (h : OnlyT T a b) (hg : b.grownBy c row) (hr : ∀ g, row = some g → T g ∨ a.heap.size ≤ g) : OnlyT T a c :=
  ⟨hg.os.trans h.os, hg.tape.trans h.tape, hg.output.trans h.output, Nat.le_trans h.size hg.size, fun k hk ht => (hg.block k (Nat.lt_of_lt_of_le hk h.size) (fun e => by
    rcases hr k e.symm with h3 | h3
    · exact ht h3
    · omega)).trans (h.block k hk ht)⟩
theorem OnlyT.cell (h : OnlyT T a b) {p : Addr} {v : Value} (hp : ¬ T p.block) (hc : a.cell? p = some v) : b.cell? p = some v :=
  (World.cell?_of_block (h.block p.block (block_lt_of_cell hc) hp)).trans hc
theorem OnlyT.cells (h : OnlyT T a b) {g o : Nat} {us : List Value} (hp : ¬ T g) (hc : CellsAt a g o us) : CellsAt b g o us := fun j u hu => h.cell (p := ⟨g, o + j, none⟩) hp (hc j u hu)
theorem OnlyT.frozen (h : OnlyT T a b) {p : Addr} (hb : p.block < a.heap.size) (hp : ¬ T p.block) : b.frozen? p = a.frozen? p := World.frozen?_of_block (h.block p.block hb hp)
/-- A row of the call's own that is none of those stays. -/
theorem OnlyT.own {B e sz n : Nat} {v : Value} {xs : List Value} (h : OnlyT T a b) (ho : a.ownsRow B e sz v n xs) (hd : ∀ g, v.ownBlock = some g → ¬ T g) : b.ownsRow B e sz v n xs := by
  refine ⟨ho.1, ?_⟩
  rcases ho.2 with h2 | ⟨g, cap, cur, hv, hb, hh, h3⟩
  · exact .inl h2
  · subst hv
    exact .inr ⟨g, cap, cur, rfl, hb, (h.block g (Array.getElem?_eq_some_iff.1 hh).1 (hd g rfl)).trans hh, h3⟩
end

/-- The rows' blocks were written, and those that are now the rows' were theirs or are new. -/
structure Mv (w : World) (S : Nat → Spot) (w' : World) (S' : Nat → Spot) : Prop where
  only : OnlyT (blk S) w w'
  new : ∀ k, blk S' k → blk S k ∨ w.heap.size ≤ k
section
variable {S S' S'' : Nat → Spot} {w w' w'' : World}
theorem Mv.refl (w : World) (S : Nat → Spot) : Mv w S w S := ⟨OnlyT.refl _ _, fun k h => .inl h⟩
theorem Mv.trans (h : Mv w S w' S') (k : Mv w' S' w'' S'') : Mv w S w'' S'' :=
  ⟨h.only.trans' k.only h.new, fun i hi => by
    rcases k.new i hi with h1 | h1
    · exact h.new i h1
    · exact .inr (Nat.le_trans h.only.size h1)⟩
theorem Mv.of_below (hb : Below w.heap.size w w') : Mv w S w' S := ⟨OnlyT.of_below hb, fun k h => .inl h⟩
theorem Mv.below_ (h : Mv w S w' S') (hb : Below w'.heap.size w' w'') : Mv w S w'' S' := h.trans (Mv.of_below hb)
theorem Mv.alloc (h : Mv w S w' S') (o : Obj) : Mv w S (w'.alloc o) S' := h.below_ ((Below.refl _ _).alloc (Nat.le_refl _) o)
theorem Mv.drew (h : Mv w S w' S') : Mv w S w'.drew S' := h.below_ (Below.refl _ _).drew
theorem Mv.drewN (h : Mv w S w' S') (n : Nat) : Mv w S (w'.drewN n) S' := h.below_ (below_drewN (Below.refl _ _) n)
theorem Mv.nblk (h : Mv w S w' S') {b : Nat} (hnb : ¬ blk S b) (hb : b < w.heap.size) : ¬ blk S' b := fun e => by
  rcases h.new b e with h1 | h1
  · exact hnb h1
  · omega
theorem Mv.size (h : Mv w S w' S') : w.heap.size ≤ w'.heap.size := h.only.size
theorem blk_put {p : Nat} {s : Spot} {k : Nat} (h : blk (putS S p s) k) : blk S k ∨ s.v.ownBlock = some k := by
  obtain ⟨j, hj⟩ := h
  by_cases e : j = p
  · rw [e, putS_same] at hj; exact .inr hj
  · rw [putS_ne e] at hj; exact .inl ⟨j, hj⟩
/-- One row is given another form: it stands where it stood, or is new. -/
theorem Mv.put (h : Mv w S w' S') (p : Nat) (s : Spot) (hs : ∀ g, s.v.ownBlock = some g → blk S' g ∨ w.heap.size ≤ g) : Mv w S w' (putS S' p s) :=
  ⟨h.only, fun k hk => by
    rcases blk_put hk with h1 | h1
    · exact h.new k h1
    · rcases hs k h1 with h2 | h2
      · exact h.new k h2
      · exact .inr h2⟩
theorem Mv.setCell (h : Mv w S w' S') {p g i : Nat} (hg : (S' p).v.ownBlock = some g) (u : Value) (xs : List Value) : Mv w S (w'.setCell ⟨g, i, none⟩ u) (putS S' p { S' p with xs := xs }) :=
  ⟨h.only.setCell (by exact h.new g ⟨p, hg⟩) u, fun k hk => by
    rcases blk_put hk with h1 | h1
    · exact h.new k h1
    · exact h.new k ⟨p, h1⟩⟩
theorem Mv.app {p : Nat} {s : Spot} (h : Mv w S w' S') (hg : w'.grownBy w'' (S' p).v.ownBlock) (hat : s.v.ownBlock = (S' p).v.ownBlock ∨ s.v.ownBlock = some w'.heap.size) : Mv w S w'' (putS S' p s) := by
  refine ⟨h.only.grown hg fun g hg => h.new g ⟨p, hg⟩, fun k hk => ?_⟩
  rcases blk_put hk with h1 | h1
  · exact h.new k h1
  · rcases hat with h2 | h2
    · exact h.new k ⟨p, by rw [← h2]; exact h1⟩
    · rw [h2] at h1
      injection h1 with h1
      exact .inr (by have := h.only.size; omega)
/-- All is above B. -/
theorem SpotsT.ge {B : Nat} (h : SpotsT w B S) {k : Nat} (hk : blk S k) : B ≤ k ∧ k < w.heap.size := by
  obtain ⟨j, hj⟩ := hk
  exact h.lt hj
theorem Mv.below {B : Nat} (h : Mv w S w' S') (hs : SpotsT w B S) (hB : B ≤ w.heap.size) : Below B w w' := h.only.below (fun i hi => (hs.ge hi).1) hB
end

/-- The needle's row among the rows. -/
def iN (n : Int × Int) : Nat := if n.1 = 2 then iB n.2.toNat else iF n.2.toNat
/-- A needle is given another list. -/
def setL (m : Mc) (n : Int × Int) (l : List Int) : Mc := if n.1 = 2 then { m with bk := m.bk.set n.2.toNat l } else { m with fr := m.fr.set n.2.toNat l }
/-- A needle of a machine. -/
def ndIn (m : Mc) (n : Int × Int) : Prop := (n.1 = 1 ∨ n.1 = 2) ∧ 0 ≤ n.2 ∧ n.2.toNat < m.fr.length ∧ n.2.toNat < m.bk.length
section
variable {S : Nat → Spot} {w w' : World} {B g : Nat} {m : Mc}
theorem MSt.size (h : MSt w B g m S) : g < w.heap.size ∧ B ≤ g := by have := h.sp.lt h.gbox; omega
theorem MSt.not_blk (h : MSt w B g m S) {b : Nat} (hb : b < B) : ¬ blk S b := fun e => by have := h.sp.ge e; omega
end

end Go.Proofs.YthhpjgdeehcgjaaGreat

/-
  Operations on machines as plain data: the code, and the machine behind an operation.
-/
namespace Go.Proofs.YthhpjgdeehcgjaaGreat
set_option linter.unusedVariables false
set_option linter.unusedSimpArgs false
open Go.RowKit

abbrev Opr.f (o : Opr) : Int × Int := (o.fb, o.fa)
abbrev Opr.t (o : Opr) : Int × Int := (o.tb, o.ta)
def carAt (m : Mc) (c : Int) : Car := m.cs.getD (c - 1).toNat ⟨false, 0⟩
def setC (m : Mc) (c : Int) (x : Car) : Mc := { m with cs := m.cs.set (c - 1).toNat x }
def plcO (m : Mc) (o : Opr) : Int := plc o.fb o.fa m.rk
/-- The carrier is in, and on the right side. -/
def carOk (m : Mc) (o : Opr) : Bool := (carAt m o.c).i && (!(decide (o.d = 1) && decide (plcO m o < (carAt m o.c).p)) && !(decide (o.d = -1) && decide ((carAt m o.c).p < plcO m o + 1)))
def carTo (m : Mc) (o : Opr) : Mc := setC m o.c ⟨(carAt m o.c).i, if o.d = 1 then plcO m o + 1 else plcO m o⟩
def addLp (m : Mc) (o : Opr) (ps : List Int) : Mc := { m with ls := m.ls ++ [⟨o.k, o.c, o.fb, o.fa, o.d, ps⟩] }
def mvCode (m : Mc) (o : Opr) : Int :=
  if plc o.fb o.fa m.rk ≠ plc o.tb o.ta m.rk then 8 else if (onL m o.f).length = 0 then 7 else if 4 < (onL m o.f).length + (onL m o.t).length then 5 else 0
def mvL (m : Mc) (o : Opr) : List Int := if o.tb = 2 then onL m o.f ++ onL m o.t else onL m o.t ++ onL m o.f
def mvTo (m : Mc) (o : Opr) : Mc := setL (setL m o.t (mvL m o)) o.f []
def fmCode (m : Mc) (o : Opr) : Int :=
  if carOk m o = false then 9 else if 300 ≤ m.ls.length then 5 else if o.k = 1 then 0 else if o.k = 2 then (if 4 ≤ (onL m o.f).length then 5 else 0) else mvCode m o
def fmTo (m : Mc) (o : Opr) : Mc :=
  if o.k = 1 then setL (addLp (carTo m o) o (onL m o.f)) o.f [(m.ls.length : Int)]
  else if o.k = 2 then setL (addLp (carTo m o) o []) o.f (onL m o.f ++ [(m.ls.length : Int)])
  else setL (addLp (mvTo (carTo m o) o) o (onL m o.f)) o.f [(m.ls.length : Int)]
/-- A number is put to its place among rising ones, once. -/
def putI : List Int → Int → List Int
  | [], n => [n]
  | x :: t, n => if n ≤ x then (if n < x then n :: x :: t else x :: t) else x :: putI t n
def putAll (l : List Int) (ns : List Int) : List Int := ns.foldl putI l
def doCode (m : Mc) (o : Opr) : Int :=
  if o.k = 1 ∨ o.k = 2 ∨ o.k = 5 then fmCode m o
  else if o.k = 3 then (if carOk m o = false then 9 else 0)
  else if o.k = 4 then mvCode m o
  else if o.k = 6 then (if (onL m o.f).length = 0 then 7 else 0)
  else if o.k = 7 then 0
  else if (carAt m o.c).i = decide (o.k = 8) then 9 else 0
def doTo (m : Mc) (o : Opr) : Mc :=
  if o.k = 1 ∨ o.k = 2 ∨ o.k = 5 then fmTo m o
  else if o.k = 3 then carTo m o
  else if o.k = 4 then mvTo m o
  else if o.k = 6 then setL { m with dr := putAll m.dr (onL m o.f) } o.f []
  else if o.k = 7 then { m with rk := o.r }
  else setC m o.c (if o.k = 8 then ⟨true, if o.d = -1 then m.wd + 3 else -3⟩ else ⟨false, 0⟩)

/-! ### What a valid operation names -/
theorem ndB_iff {b a : Int} : ndB b a = true ↔ (b = 1 ∨ b = 2) ∧ 0 ≤ a ∧ a ≤ 23 := by
  unfold ndB bedM
  simp only [Bool.and_eq_true, decide_eq_true_eq, inB_iff]
theorem dirM_iff {d : Int} : dirM d = true ↔ d = 1 ∨ d = -1 := by simp [dirM]
/-- What each kind of a valid operation has. -/
theorem okOp_kinds {o : Opr} (h : okOp o = true) :
    ((o.k = 1 ∨ o.k = 2 ∨ o.k = 3) ∧ (o.d = 1 ∨ o.d = -1) ∧ ndB o.fb o.fa = true ∧ 1 ≤ o.c ∧ o.c ≤ 4 ∧ o.tb = 0 ∧ o.ta = 0 ∧ o.r = 0) ∨
    (o.k = 4 ∧ ndB o.fb o.fa = true ∧ ndB o.tb o.ta = true ∧ o.fb ≠ o.tb ∧ o.d = 0 ∧ o.c = 0 ∧ o.r = 0) ∨
    (o.k = 5 ∧ ndB o.fb o.fa = true ∧ ndB o.tb o.ta = true ∧ o.fb ≠ o.tb ∧ (o.d = 1 ∨ o.d = -1) ∧ 1 ≤ o.c ∧ o.c ≤ 4 ∧ o.r = 0) ∨
    (o.k = 6 ∧ ndB o.fb o.fa = true ∧ o.d = 0 ∧ o.tb = 0 ∧ o.ta = 0 ∧ o.c = 0 ∧ o.r = 0) ∨
    (o.k = 7 ∧ -3 ≤ o.r ∧ o.r ≤ 3 ∧ o.d = 0 ∧ o.fb = 0 ∧ o.fa = 0 ∧ o.tb = 0 ∧ o.ta = 0 ∧ o.c = 0) ∨
    (o.k = 8 ∧ (o.d = 1 ∨ o.d = -1) ∧ 1 ≤ o.c ∧ o.c ≤ 4 ∧ o.fb = 0 ∧ o.fa = 0 ∧ o.tb = 0 ∧ o.ta = 0 ∧ o.r = 0) ∨
    (o.k = 9 ∧ 1 ≤ o.c ∧ o.c ≤ 4 ∧ o.d = 0 ∧ o.fb = 0 ∧ o.fa = 0 ∧ o.tb = 0 ∧ o.ta = 0 ∧ o.r = 0) := by
  obtain ⟨k, d, fb, fa, tb, ta, c, r⟩ := o
  unfold okOp at h
  simp only at h ⊢
  split at h
  · rename_i hk
    simp only [Bool.and_eq_true, decide_eq_true_eq, dirM_iff, inB_iff] at h
    obtain ⟨h1, h2, h3, h4, h5⟩ := h
    exact .inl ⟨hk, h1, h2, h3.1, h3.2, h4.1, h4.2, h5⟩
  split at h
  · rename_i hk1 hk
    simp only [Bool.and_eq_true, decide_eq_true_eq] at h
    obtain ⟨⟨h1, h2, h3⟩, h4, h5, h6⟩ := h
    exact .inr (.inl ⟨hk, h1, h2, h3, h4, h5, h6⟩)
  split at h
  · rename_i hk1 hk2 hk
    simp only [Bool.and_eq_true, decide_eq_true_eq, dirM_iff, inB_iff] at h
    obtain ⟨⟨h1, h2, h3⟩, h4, h5, h6⟩ := h
    exact .inr (.inr (.inl ⟨hk, h1, h2, h3, h4, h5.1, h5.2, h6⟩))
  split at h
  · rename_i hk1 hk2 hk3 hk
    simp only [Bool.and_eq_true, decide_eq_true_eq, Opr.mk.injEq] at h
    obtain ⟨h1, h2⟩ := h
    exact .inr (.inr (.inr (.inl ⟨hk, h1, by omega, by omega, by omega, by omega, by omega⟩)))
  split at h
  · rename_i hk1 hk2 hk3 hk4 hk
    simp only [Bool.and_eq_true, decide_eq_true_eq, inB_iff, Opr.mk.injEq] at h
    exact .inr (.inr (.inr (.inr (.inl ⟨hk, by omega, by omega, by omega, by omega, by omega, by omega, by omega, by omega⟩))))
  split at h
  · rename_i hk1 hk2 hk3 hk4 hk5 hk
    simp only [Bool.and_eq_true, decide_eq_true_eq, dirM_iff, inB_iff, Opr.mk.injEq] at h
    obtain ⟨h1, h2, h3⟩ := h
    exact .inr (.inr (.inr (.inr (.inr (.inl ⟨hk, h1, h2.1, h2.2, by omega, by omega, by omega, by omega, by omega⟩)))))
  split at h
  · rename_i hk1 hk2 hk3 hk4 hk5 hk6 hk
    simp only [Bool.and_eq_true, decide_eq_true_eq, inB_iff, Opr.mk.injEq] at h
    exact .inr (.inr (.inr (.inr (.inr (.inr ⟨hk, by omega, by omega, by omega, by omega, by omega, by omega, by omega, by omega⟩)))))
  · simp at h
theorem okOpW_iff {wd : Int} {o : Opr} : okOpW wd o = true ↔ okOp o = true ∧ o.fa < wd ∧ o.ta < wd := by simp [okOpW]

end Go.Proofs.YthhpjgdeehcgjaaGreat

/-
  A machine of a call's own as it is built: needles more; a needle's list, whichever bed.
-/
namespace Go.Proofs.YthhpjgdeehcgjaaGreat
set_option linter.unusedVariables false
set_option linter.unusedSimpArgs false
open Go.RowKit

section
variable {w w' w0 : World} {B g : Nat} {m : Mc} {S S0 : Nat → Spot}
/-- A needle more on a bed: its row, the bed's row that has grown; the box is told. -/
theorem MSt.addF {l : List Int} {v vl : Value} {xs xs' : List Value} (h : MSt w B g m S) (e1 : S 1 = ⟨32, 1, (S 1).v, m.fr.length, xs⟩) (hxs : xs' = xs ++ [v])
    (hsp : SpotsT w' B (putS (putS S (iF m.fr.length) (spI v l)) 1 ⟨32, 1, vl, m.fr.length + 1, xs'⟩)) :
    MSt (w'.setCell ⟨g, 2, none⟩ vl) B g { m with fr := m.fr ++ [l] } (putS (putS (putS S (iF m.fr.length) (spI v l)) 1 ⟨32, 1, vl, m.fr.length + 1, xs'⟩) 0 { S 0 with xs := (S 0).xs.set 2 vl }) := by
  have hp : iF m.fr.length ≠ 0 ∧ iF m.fr.length ≠ 1 ∧ iF m.fr.length ≠ 2 ∧ iF m.fr.length ≠ 3 ∧ iF m.fr.length ≠ 4 ∧ iF m.fr.length ≠ 5 := by unfold iF; omega
  have e0 : (putS (putS S (iF m.fr.length) (spI v l)) 1 ⟨32, 1, vl, m.fr.length + 1, xs'⟩) 0 = S 0 := by rw [putS_ne (by omega), putS_ne (by omega)]
  have hsp2 := hsp.setCell (p := 0) (g := g) (i := 2) (by rw [e0]; exact h.gbox) vl (by rw [e0, h.box]; simp)
  rw [e0] at hsp2
  generalize hS' : (putS (putS (putS S (iF m.fr.length) (spI v l)) 1 ⟨32, 1, vl, m.fr.length + 1, xs'⟩) 0 { S 0 with xs := (S 0).xs.set 2 vl }) = S' at hsp2
  have ev : ∀ j, j ≠ 0 → j ≠ 1 → j ≠ iF m.fr.length → S' j = S j := fun j h1 h2 h3 => by rw [← hS', putS_ne h1, putS_ne h2, putS_ne h3]
  have ez : S' 0 = { S 0 with xs := (S 0).xs.set 2 vl } := by rw [← hS', putS_same]
  have e1' : S' 1 = ⟨32, 1, vl, m.fr.length + 1, xs'⟩ := by rw [← hS', putS_ne (by omega), putS_same]
  have ep : S' (iF m.fr.length) = spI v l := by rw [← hS', putS_ne (by omega), putS_ne (by omega), putS_same]
  have hxl : xs.length = m.fr.length * 1 := by have := (h.owned e1).1; exact this
  have evo : S' 2 = S 2 := ev 2 (by omega) (by omega) (by unfold iF; omega)
  have evs : ∀ j, 3 ≤ j → j ≤ 5 → S' j = S j := fun j h1 h2 => ev j (by omega) (by omega) (by unfold iF; omega)
  have evO : ∀ k, S' (iB k) = S (iB k) := fun k => ev _ (by unfold iB; omega) (by unfold iB; omega) (by unfold iB iF; omega)
  have evP : ∀ k, S' (iP k) = S (iP k) := fun k => ev _ (by unfold iP; omega) (by unfold iP; omega) (by unfold iP iF; omega)
  have evI : ∀ k, k < m.fr.length → S' (iF k) = S (iF k) := fun k hk => ev _ (by unfold iF; omega) (by unfold iF; omega) (by unfold iF; omega)
  have hbox : S' 0 = ⟨34, 7, .slice (some ⟨g, 0, none⟩) 1 1, 1, [.int .i64 m.wd, .int .i64 m.rk, (S' 1).v, (S' 2).v, (S' 3).v, (S' 4).v, (S' 5).v]⟩ := by
    rw [ez, evs 3 (by omega) (by omega), evs 4 (by omega) (by omega), evs 5 (by omega) (by omega), e1', evo, h.box]
    rfl
  have hnew : ∃ ys, S' 1 = ⟨32, 1, (S' 1).v, (m.fr ++ [l]).length, ys⟩ ∧ ∀ k, k < (m.fr ++ [l]).length → ys[k]? = some (S' (iF k)).v := by
    obtain ⟨ys, e, hx⟩ := h.fr
    have hys : ys = xs := by rw [e1] at e; injection e with _ _ _ _ h5; exact h5.symm
    subst hys
    refine ⟨xs', by rw [e1']; simp, fun k hk => ?_⟩
    simp at hk
    by_cases hk1 : k < m.fr.length
    · rw [evI k hk1, hxs, List.getElem?_append_left (by omega)]
      exact hx k hk1
    · have hk2 : k = m.fr.length := by omega
      subst hk2
      rw [ep, hxs, List.getElem?_append_right (by omega), show m.fr.length - ys.length = 0 by omega]
      rfl
  have hlist : ∀ k x, (m.fr ++ [l])[k]? = some x → S' (iF k) = spI (S' (iF k)).v x := fun k x hx => by
    by_cases hk1 : k < m.fr.length
    · rw [List.getElem?_append_left hk1] at hx
      rw [evI k hk1]
      exact h.fl k x hx
    · have hk2 : k = m.fr.length := by have := (List.getElem?_eq_some_iff.1 hx).1; simp at this; omega
      subst hk2
      rw [List.getElem?_append_right (Nat.le_refl _), Nat.sub_self] at hx
      injection hx with hx
      subst hx
      rw [ep]
  have hoth : ∃ ys, S' 2 = ⟨32, 1, (S' 2).v, m.bk.length, ys⟩ ∧ ∀ k, k < m.bk.length → ys[k]? = some (S' (iB k)).v := by
    rw [evo]
    obtain ⟨ys, e, hx⟩ := h.bk
    exact ⟨ys, e, fun k hk => by rw [evO]; exact hx k hk⟩
  have hol : ∀ k x, m.bk[k]? = some x → S' (iB k) = spI (S' (iB k)).v x := fun k x hx => by rw [evO]; exact h.bl k x hx
  refine ⟨hsp2, hbox, hnew, hoth, ?_, ?_, ?_, hlist, hol, fun k x hx => by rw [evP]; exact h.pl k x hx⟩
  · rw [evs 3 (by omega) (by omega)]; exact h.cs
  · rw [evs 4 (by omega) (by omega)]
    obtain ⟨ys, e, hx⟩ := h.ls
    exact ⟨ys, e, fun k x hk => by rw [evP]; exact hx k x hk⟩
  · rw [evs 5 (by omega) (by omega)]; exact h.dr
/-- A needle more on a bed: its row, the bed's row that has grown; the box is told. -/
theorem MSt.addB {l : List Int} {v vl : Value} {xs xs' : List Value} (h : MSt w B g m S) (e1 : S 2 = ⟨32, 1, (S 2).v, m.bk.length, xs⟩) (hxs : xs' = xs ++ [v])
    (hsp : SpotsT w' B (putS (putS S (iB m.bk.length) (spI v l)) 2 ⟨32, 1, vl, m.bk.length + 1, xs'⟩)) :
    MSt (w'.setCell ⟨g, 3, none⟩ vl) B g { m with bk := m.bk ++ [l] } (putS (putS (putS S (iB m.bk.length) (spI v l)) 2 ⟨32, 1, vl, m.bk.length + 1, xs'⟩) 0 { S 0 with xs := (S 0).xs.set 3 vl }) := by
  have hp : iB m.bk.length ≠ 0 ∧ iB m.bk.length ≠ 1 ∧ iB m.bk.length ≠ 2 ∧ iB m.bk.length ≠ 3 ∧ iB m.bk.length ≠ 4 ∧ iB m.bk.length ≠ 5 := by unfold iB; omega
  have e0 : (putS (putS S (iB m.bk.length) (spI v l)) 2 ⟨32, 1, vl, m.bk.length + 1, xs'⟩) 0 = S 0 := by rw [putS_ne (by omega), putS_ne (by omega)]
  have hsp2 := hsp.setCell (p := 0) (g := g) (i := 3) (by rw [e0]; exact h.gbox) vl (by rw [e0, h.box]; simp)
  rw [e0] at hsp2
  generalize hS' : (putS (putS (putS S (iB m.bk.length) (spI v l)) 2 ⟨32, 1, vl, m.bk.length + 1, xs'⟩) 0 { S 0 with xs := (S 0).xs.set 3 vl }) = S' at hsp2
  have ev : ∀ j, j ≠ 0 → j ≠ 2 → j ≠ iB m.bk.length → S' j = S j := fun j h1 h2 h3 => by rw [← hS', putS_ne h1, putS_ne h2, putS_ne h3]
  have ez : S' 0 = { S 0 with xs := (S 0).xs.set 3 vl } := by rw [← hS', putS_same]
  have e1' : S' 2 = ⟨32, 1, vl, m.bk.length + 1, xs'⟩ := by rw [← hS', putS_ne (by omega), putS_same]
  have ep : S' (iB m.bk.length) = spI v l := by rw [← hS', putS_ne (by omega), putS_ne (by omega), putS_same]
  have hxl : xs.length = m.bk.length * 1 := by have := (h.owned e1).1; exact this
  have evo : S' 1 = S 1 := ev 1 (by omega) (by omega) (by unfold iB; omega)
  have evs : ∀ j, 3 ≤ j → j ≤ 5 → S' j = S j := fun j h1 h2 => ev j (by omega) (by omega) (by unfold iB; omega)
  have evO : ∀ k, S' (iF k) = S (iF k) := fun k => ev _ (by unfold iF; omega) (by unfold iF; omega) (by unfold iF iB; omega)
  have evP : ∀ k, S' (iP k) = S (iP k) := fun k => ev _ (by unfold iP; omega) (by unfold iP; omega) (by unfold iP iB; omega)
  have evI : ∀ k, k < m.bk.length → S' (iB k) = S (iB k) := fun k hk => ev _ (by unfold iB; omega) (by unfold iB; omega) (by unfold iB; omega)
  have hbox : S' 0 = ⟨34, 7, .slice (some ⟨g, 0, none⟩) 1 1, 1, [.int .i64 m.wd, .int .i64 m.rk, (S' 1).v, (S' 2).v, (S' 3).v, (S' 4).v, (S' 5).v]⟩ := by
    rw [ez, evs 3 (by omega) (by omega), evs 4 (by omega) (by omega), evs 5 (by omega) (by omega), e1', evo, h.box]
    rfl
  have hnew : ∃ ys, S' 2 = ⟨32, 1, (S' 2).v, (m.bk ++ [l]).length, ys⟩ ∧ ∀ k, k < (m.bk ++ [l]).length → ys[k]? = some (S' (iB k)).v := by
    obtain ⟨ys, e, hx⟩ := h.bk
    have hys : ys = xs := by rw [e1] at e; injection e with _ _ _ _ h5; exact h5.symm
    subst hys
    refine ⟨xs', by rw [e1']; simp, fun k hk => ?_⟩
    simp at hk
    by_cases hk1 : k < m.bk.length
    · rw [evI k hk1, hxs, List.getElem?_append_left (by omega)]
      exact hx k hk1
    · have hk2 : k = m.bk.length := by omega
      subst hk2
      rw [ep, hxs, List.getElem?_append_right (by omega), show m.bk.length - ys.length = 0 by omega]
      rfl
  have hlist : ∀ k x, (m.bk ++ [l])[k]? = some x → S' (iB k) = spI (S' (iB k)).v x := fun k x hx => by
    by_cases hk1 : k < m.bk.length
    · rw [List.getElem?_append_left hk1] at hx
      rw [evI k hk1]
      exact h.bl k x hx
    · have hk2 : k = m.bk.length := by have := (List.getElem?_eq_some_iff.1 hx).1; simp at this; omega
      subst hk2
      rw [List.getElem?_append_right (Nat.le_refl _), Nat.sub_self] at hx
      injection hx with hx
      subst hx
      rw [ep]
  have hoth : ∃ ys, S' 1 = ⟨32, 1, (S' 1).v, m.fr.length, ys⟩ ∧ ∀ k, k < m.fr.length → ys[k]? = some (S' (iF k)).v := by
    rw [evo]
    obtain ⟨ys, e, hx⟩ := h.fr
    exact ⟨ys, e, fun k hk => by rw [evO]; exact hx k hk⟩
  have hol : ∀ k x, m.fr[k]? = some x → S' (iF k) = spI (S' (iF k)).v x := fun k x hx => by rw [evO]; exact h.fl k x hx
  refine ⟨hsp2, hbox, hoth, hnew, ?_, ?_, ?_, hol, hlist, fun k x hx => by rw [evP]; exact h.pl k x hx⟩
  · rw [evs 3 (by omega) (by omega)]; exact h.cs
  · rw [evs 4 (by omega) (by omega)]
    obtain ⟨ys, e, hx⟩ := h.ls
    exact ⟨ys, e, fun k x hk => by rw [evP]; exact hx k x hk⟩
  · rw [evs 5 (by omega) (by omega)]; exact h.dr

/-- A fresh row may stand for any of the rows. -/
theorem SpotsT.putX (h : SpotsT w B S) (p : Nat) {v : Value} {l : List Int} (hown : w.ownsRow B 2 1 v l.length (vI l)) (hnew : ∀ k, v.ownBlock = some k → ¬ blk S k) : SpotsT w B (putS S p (spI v l)) :=
  h.put p _ hown fun k hk => .inr fun j _ hj => hnew k hk ⟨j, hj⟩
/-- The header of a bed. -/
def bedV (S : Nat → Spot) (b : Int) : Value := if b = 2 then (S 2).v else (S 1).v
/-- A needle's header stands in its bed's row, and may be written. -/
theorem MSt.nd (h : MSt w B g m S) {n : Int × Int} (hn : ndIn m n) : ∃ b c L, bedV S n.1 = .slice (some ⟨b, 0, none⟩) L c ∧ n.2 < (L : Int) ∧ blk S b ∧ b < w.heap.size ∧ B ≤ b ∧ w.cell? ⟨b, n.2.toNat, none⟩ = some (S (iN n)).v ∧ (∀ o, w.frozen? ⟨b, o, none⟩ = false) ∧ S (iN n) = spI (S (iN n)).v (onL m n) ∧
    ∀ (w' : World) (l' : List Int) (v' : Value), SpotsT w' B (putS S (iN n) (spI v' l')) → ∃ S', MSt (w'.setCell ⟨b, n.2.toNat, none⟩ v') B g (setL m n l') S' ∧ ∀ w0 S0, Mv w0 S0 w' (putS S (iN n) (spI v' l')) → Mv w0 S0 (w'.setCell ⟨b, n.2.toNat, none⟩ v') S' := by
  obtain ⟨h1, h2, h3, h4⟩ := hn
  by_cases e : n.1 = 2
  · obtain ⟨b, c, hv, hB, hb, hc, ho⟩ := h.gB (by omega)
    obtain ⟨g1, g2, g3⟩ := h.listB h4 ho
    have ei : iN n = iB n.2.toNat := by unfold iN; rw [if_pos e]
    have eo : onL m n = m.bk[n.2.toNat] := by unfold onL; rw [if_pos e, List.getD_eq_getElem?_getD, List.getElem?_eq_getElem h4]; rfl
    refine ⟨b, c, m.bk.length, by unfold bedV; rw [if_pos e]; exact hv, by omega, ⟨2, ho⟩, hb, hB, by rw [ei]; exact g1, g2, by rw [ei, eo]; exact g3, fun w' l' v' hsp => ?_⟩
    rw [ei] at hsp
    refine ⟨_, by unfold setL; rw [if_pos e]; exact h.setB h4 ho hsp, fun w0 S0 hm => ?_⟩
    rw [ei] at hm
    have e2 : putS S (iB n.2.toNat) (spI v' l') 2 = S 2 := putS_ne (fun e => by unfold iB at e; omega)
    have := hm.setCell (p := 2) (g := b) (i := n.2.toNat) (by rw [e2]; exact ho) v' ((S 2).xs.set n.2.toNat v')
    rw [e2] at this
    exact this
  · obtain ⟨b, c, hv, hB, hb, hc, ho⟩ := h.gF (by omega)
    obtain ⟨g1, g2, g3⟩ := h.listF h3 ho
    have ei : iN n = iF n.2.toNat := by unfold iN; rw [if_neg e]
    have eo : onL m n = m.fr[n.2.toNat] := by unfold onL; rw [if_neg e, List.getD_eq_getElem?_getD, List.getElem?_eq_getElem h3]; rfl
    refine ⟨b, c, m.fr.length, by unfold bedV; rw [if_neg e]; exact hv, by omega, ⟨1, ho⟩, hb, hB, by rw [ei]; exact g1, g2, by rw [ei, eo]; exact g3, fun w' l' v' hsp => ?_⟩
    rw [ei] at hsp
    refine ⟨_, by unfold setL; rw [if_neg e]; exact h.setF h3 ho hsp, fun w0 S0 hm => ?_⟩
    rw [ei] at hm
    have e2 : putS S (iF n.2.toNat) (spI v' l') 1 = S 1 := putS_ne (fun e => by unfold iF at e; omega)
    have := hm.setCell (p := 1) (g := b) (i := n.2.toNat) (by rw [e2]; exact ho) v' ((S 1).xs.set n.2.toNat v')
    rw [e2] at this
    exact this
end

end Go.Proofs.YthhpjgdeehcgjaaGreat
