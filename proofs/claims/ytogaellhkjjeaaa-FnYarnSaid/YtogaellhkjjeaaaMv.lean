/-
  What moves while the rows of one machine are written: only their own blocks, and new ones.
-/
import Derived.Test.YtogaellhkjjeaaaMs2
namespace Go.Proofs.Ytogaellhkjjeaaa
set_option linter.unusedVariables false
set_option linter.unusedSimpArgs false
open Go.RowKit

/-- Only the blocks in T may have changed; new ones may have come. -/
structure OnlyT (T : Nat → Prop) (w w' : World) : Prop where
  os : w'.os = w.os
  tape : w'.tape = w.tape
  output : w'.output = w.output
  size : w.heap.size ≤ w'.heap.size
  block : ∀ k, k < w.heap.size → ¬ T k → w'.heap[k]? = w.heap[k]?
/-- The blocks of rows. -/
def blk (S : Nat → Spot) (k : Nat) : Prop := ∃ j, (S j).v.ownBlock = some k

section
variable {T T' : Nat → Prop} {a b c w w' : World}
theorem OnlyT.refl (T : Nat → Prop) (w : World) : OnlyT T w w := ⟨rfl, rfl, rfl, Nat.le_refl _, fun _ _ _ => rfl⟩
theorem OnlyT.trans (h : OnlyT T a b) (k : OnlyT T b c) : OnlyT T a c :=
  ⟨k.os.trans h.os, k.tape.trans h.tape, k.output.trans h.output, Nat.le_trans h.size k.size, fun i h1 h2 => (k.block i (Nat.lt_of_lt_of_le h1 h.size) h2).trans (h.block i h1 h2)⟩
/-- The second step may write more, if that is new to the first world. -/
theorem OnlyT.trans' (h : OnlyT T a b) (k : OnlyT T' b c) (ht : ∀ i, T' i → T i ∨ a.heap.size ≤ i) : OnlyT T a c :=
  ⟨k.os.trans h.os, k.tape.trans h.tape, k.output.trans h.output, Nat.le_trans h.size k.size, fun i h1 h2 => (k.block i (Nat.lt_of_lt_of_le h1 h.size) (fun e => by
    rcases ht i e with h3 | h3
    · exact h2 h3
    · omega)).trans (h.block i h1 h2)⟩
theorem OnlyT.wide (h : OnlyT T a b) (ht : ∀ i, i < a.heap.size → T i → T' i) : OnlyT T' a b := ⟨h.os, h.tape, h.output, h.size, fun i h1 h2 => h.block i h1 (fun e => h2 (ht i h1 e))⟩
theorem OnlyT.of_below (h : Below a.heap.size a b) : OnlyT T a b := ⟨h.os, h.tape, h.output, h.size, fun k hk _ => h.block k hk⟩
theorem OnlyT.below {B : Nat} (h : OnlyT T a b) (hT : ∀ i, T i → B ≤ i) (hB : B ≤ a.heap.size) : Below B a b := ⟨h.os, h.tape, h.output, h.size, fun k hk => h.block k (by omega) (fun e => by have := hT k e; omega)⟩
theorem OnlyT.alloc (h : OnlyT T a b) (o : Obj) : OnlyT T a (b.alloc o) := h.trans (OnlyT.of_below ((Below.refl _ _).alloc (Nat.le_refl _) o))
theorem OnlyT.drew (h : OnlyT T a b) : OnlyT T a b.drew := ⟨h.os, h.tape, h.output, h.size, h.block⟩
theorem OnlyT.drewN (h : OnlyT T a b) (n : Nat) : OnlyT T a (b.drewN n) := ⟨h.os, h.tape, h.output, h.size, h.block⟩
theorem OnlyT.setCell (h : OnlyT T a b) {p : Addr} (hp : T p.block ∨ a.heap.size ≤ p.block) (u : Value) : OnlyT T a (b.setCell p u) :=
  ⟨h.os, h.tape, h.output, by simpa [World.setCell] using h.size, fun k hk ht => (Below.heap_setCell _ _ _ _ (fun e => by subst e; rcases hp with hp | hp; exact ht hp; omega)).trans (h.block k hk ht)⟩
theorem OnlyT.grown {row : Option Nat} (h : OnlyT T a b) (hg : b.grownBy c row) (hr : ∀ g, row = some g → T g ∨ a.heap.size ≤ g) : OnlyT T a c :=
  ⟨hg.os.trans h.os, hg.tape.trans h.tape, hg.output.trans h.output, Nat.le_trans h.size hg.size, fun k hk ht => (hg.block k (Nat.lt_of_lt_of_le hk h.size) (fun e => by
    rcases hr k e.symm with h3 | h3
    · exact ht h3
    · omega)).trans (h.block k hk ht)⟩
theorem OnlyT.cell (h : OnlyT T a b) {p : Addr} {v : Value} (hp : ¬ T p.block) (hc : a.cell? p = some v) : b.cell? p = some v :=
  (World.cell?_of_block (h.block p.block (block_lt_of_cell hc) hp)).trans hc
theorem OnlyT.cells (h : OnlyT T a b) {g o : Nat} {us : List Value} (hp : ¬ T g) (hc : CellsAt a g o us) : CellsAt b g o us := fun j u hu => h.cell (p := ⟨g, o + j, none⟩) hp (hc j u hu)
theorem OnlyT.frozen (h : OnlyT T a b) {p : Addr} (hb : p.block < a.heap.size) (hp : ¬ T p.block) : b.frozen? p = a.frozen? p := World.frozen?_of_block (h.block p.block hb hp)
/-- A row of the call's own that is none of those stays. -/
theorem OnlyT.own {B e sz n : Nat} {v : Value} {xs : List Value} (h : OnlyT T a b) (ho : a.ownsRow B e sz v n xs) (hd : ∀ g, v.ownBlock = some g → ¬ T g) : b.ownsRow B e sz v n xs := by
  refine ⟨ho.1, ?_⟩
  rcases ho.2 with h2 | ⟨g, cap, cur, hv, hb, hh, h3⟩
  · exact .inl h2
  · subst hv
    exact .inr ⟨g, cap, cur, rfl, hb, (h.block g (Array.getElem?_eq_some_iff.1 hh).1 (hd g rfl)).trans hh, h3⟩
end

/-- The rows' blocks were written, and those that are now the rows' were theirs or are new. -/
structure Mv (w : World) (S : Nat → Spot) (w' : World) (S' : Nat → Spot) : Prop where
  only : OnlyT (blk S) w w'
  new : ∀ k, blk S' k → blk S k ∨ w.heap.size ≤ k
section
variable {S S' S'' : Nat → Spot} {w w' w'' : World}
theorem Mv.refl (w : World) (S : Nat → Spot) : Mv w S w S := ⟨OnlyT.refl _ _, fun k h => .inl h⟩
theorem Mv.trans (h : Mv w S w' S') (k : Mv w' S' w'' S'') : Mv w S w'' S'' :=
  ⟨h.only.trans' k.only h.new, fun i hi => by
    rcases k.new i hi with h1 | h1
    · exact h.new i h1
    · exact .inr (Nat.le_trans h.only.size h1)⟩
theorem Mv.of_below (hb : Below w.heap.size w w') : Mv w S w' S := ⟨OnlyT.of_below hb, fun k h => .inl h⟩
theorem Mv.below_ (h : Mv w S w' S') (hb : Below w'.heap.size w' w'') : Mv w S w'' S' := h.trans (Mv.of_below hb)
theorem Mv.alloc (h : Mv w S w' S') (o : Obj) : Mv w S (w'.alloc o) S' := h.below_ ((Below.refl _ _).alloc (Nat.le_refl _) o)
theorem Mv.drew (h : Mv w S w' S') : Mv w S w'.drew S' := h.below_ (Below.refl _ _).drew
theorem Mv.drewN (h : Mv w S w' S') (n : Nat) : Mv w S (w'.drewN n) S' := h.below_ (below_drewN (Below.refl _ _) n)
theorem Mv.nblk (h : Mv w S w' S') {b : Nat} (hnb : ¬ blk S b) (hb : b < w.heap.size) : ¬ blk S' b := fun e => by
  rcases h.new b e with h1 | h1
  · exact hnb h1
  · omega
theorem Mv.size (h : Mv w S w' S') : w.heap.size ≤ w'.heap.size := h.only.size
theorem blk_put {p : Nat} {s : Spot} {k : Nat} (h : blk (putS S p s) k) : blk S k ∨ s.v.ownBlock = some k := by
  obtain ⟨j, hj⟩ := h
  by_cases e : j = p
  · rw [e, putS_same] at hj; exact .inr hj
  · rw [putS_ne e] at hj; exact .inl ⟨j, hj⟩
/-- One row is given another form: it stands where it stood, or is new. -/
theorem Mv.put (h : Mv w S w' S') (p : Nat) (s : Spot) (hs : ∀ g, s.v.ownBlock = some g → blk S' g ∨ w.heap.size ≤ g) : Mv w S w' (putS S' p s) :=
  ⟨h.only, fun k hk => by
    rcases blk_put hk with h1 | h1
    · exact h.new k h1
    · rcases hs k h1 with h2 | h2
      · exact h.new k h2
      · exact .inr h2⟩
theorem Mv.setCell (h : Mv w S w' S') {p g i : Nat} (hg : (S' p).v.ownBlock = some g) (u : Value) (xs : List Value) : Mv w S (w'.setCell ⟨g, i, none⟩ u) (putS S' p { S' p with xs := xs }) :=
  ⟨h.only.setCell (by exact h.new g ⟨p, hg⟩) u, fun k hk => by
    rcases blk_put hk with h1 | h1
    · exact h.new k h1
    · exact h.new k ⟨p, h1⟩⟩
theorem Mv.app {p : Nat} {s : Spot} (h : Mv w S w' S') (hg : w'.grownBy w'' (S' p).v.ownBlock) (hat : s.v.ownBlock = (S' p).v.ownBlock ∨ s.v.ownBlock = some w'.heap.size) : Mv w S w'' (putS S' p s) := by
  refine ⟨h.only.grown hg fun g hg => h.new g ⟨p, hg⟩, fun k hk => ?_⟩
  rcases blk_put hk with h1 | h1
  · exact h.new k h1
  · rcases hat with h2 | h2
    · exact h.new k ⟨p, by rw [← h2]; exact h1⟩
    · rw [h2] at h1
      injection h1 with h1
      exact .inr (by have := h.only.size; omega)
/-- All is above B. -/
theorem SpotsT.ge {B : Nat} (h : SpotsT w B S) {k : Nat} (hk : blk S k) : B ≤ k ∧ k < w.heap.size := by
  obtain ⟨j, hj⟩ := hk
  exact h.lt hj
theorem Mv.below {B : Nat} (h : Mv w S w' S') (hs : SpotsT w B S) (hB : B ≤ w.heap.size) : Below B w w' := h.only.below (fun i hi => (hs.ge hi).1) hB
end

/-- The needle's row among the rows. -/
def iN (n : Int × Int) : Nat := if n.1 = 2 then iB n.2.toNat else iF n.2.toNat
/-- A needle is given another list. -/
def setL (m : Mc) (n : Int × Int) (l : List Int) : Mc := if n.1 = 2 then { m with bk := m.bk.set n.2.toNat l } else { m with fr := m.fr.set n.2.toNat l }
/-- A needle of a machine. -/
def ndIn (m : Mc) (n : Int × Int) : Prop := (n.1 = 1 ∨ n.1 = 2) ∧ 0 ≤ n.2 ∧ n.2.toNat < m.fr.length ∧ n.2.toNat < m.bk.length
section
variable {S : Nat → Spot} {w w' : World} {B g : Nat} {m : Mc}
theorem MSt.size (h : MSt w B g m S) : g < w.heap.size ∧ B ≤ g := by have := h.sp.lt h.gbox; omega
theorem MSt.not_blk (h : MSt w B g m S) {b : Nat} (hb : b < B) : ¬ blk S b := fun e => by have := h.sp.ge e; omega
end

end Go.Proofs.Ytogaellhkjjeaaa
