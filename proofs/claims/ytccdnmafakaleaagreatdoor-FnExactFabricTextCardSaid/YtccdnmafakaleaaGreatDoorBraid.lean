/-
  Braids as plain data, and what the laws' helpers for braids do.
-/
import Derived.Test.YtccdnmafakaleaaGreatDoorMark
import Derived.Test.YtccdnmafakaleaaGreatDoorInt
import Derived.Test.YtccdnmafakaleaaGreatDoorWords
import Derived.Test.YtccdnmafakaleaaGreatDoorSame
namespace Go.Proofs.YtccdnmafakaleaaGreatDoor
set_option linter.unusedVariables false
set_option linter.unusedSimpArgs false
open Go.RowKit

structure Br where
  n : Int
  w : List Int
deriving DecidableEq

/-- A braid by value that reads as b, its word below block B. -/
def RdBr (w : World) (B : Nat) (v : Value) (b : Br) : Prop := ∃ s, v = .agg #[.int .i64 b.n, s] ∧ RdI w B s b.w
/-- A braid by value whose word is the caller's own. -/
def OwBr (w : World) (lo hi : Nat) (v : Value) (b : Br) : Prop := ∃ s, v = .agg #[.int .i64 b.n, s] ∧ OwC w lo hi 2 1 s b.w.length (vI b.w)

theorem RdI.up {w w' : World} {B : Nat} {v : Value} {l : List Int} (h : RdI w B v l) (hb : Below B w w') (hB : B ≤ w'.heap.size) : RdI w' w'.heap.size v l := (h.below hb).more hB
theorem RdI.shape {w : World} {B : Nat} {v : Value} {l : List Int} (h : RdI w B v l) : ∃ A n c, v = .slice A n c := by
  obtain ⟨A, n, c, rfl, _⟩ := h
  exact ⟨A, n, c, rfl⟩
theorem RdBr.of_own {w : World} {lo hi : Nat} {v : Value} {b : Br} (h : OwBr w lo hi v b) : RdBr w hi v b := by
  obtain ⟨s, hv, ho⟩ := h
  exact ⟨s, hv, RdI.of_own ho⟩
theorem RdBr.below {w w' : World} {B : Nat} {v : Value} {b : Br} (h : RdBr w B v b) (hb : Below B w w') : RdBr w' B v b := by
  obtain ⟨s, hv, ho⟩ := h
  exact ⟨s, hv, ho.below hb⟩
theorem RdBr.more {w : World} {B B' : Nat} {v : Value} {b : Br} (h : RdBr w B v b) (hB : B ≤ B') : RdBr w B' v b := by
  obtain ⟨s, hv, ho⟩ := h
  exact ⟨s, hv, ho.more hB⟩
theorem OwBr.below {w w' : World} {lo hi : Nat} {v : Value} {b : Br} (h : OwBr w lo hi v b) (hb : Below hi w w') : OwBr w' lo hi v b := by
  obtain ⟨s, hv, ho⟩ := h
  exact ⟨s, hv, ho.below hb⟩
theorem OwBr.only {w w' : World} {lo hi l h : Nat} {v : Value} {b : Br} (ho : OwBr w lo hi v b) (hw : Only l h w w') (hd : hi ≤ l ∨ h ≤ lo) (hs : hi ≤ w.heap.size) : OwBr w' lo hi v b := by
  obtain ⟨s, hv, ho⟩ := ho
  exact ⟨s, hv, ho.only hw hd hs⟩

def GivesBr (w : World) (b : Br) (e : Ending) (w' : World) : Prop := ∃ v, e = .returned v ∧ OwBr w' w.heap.size w'.heap.size v b ∧ Below w.heap.size w w'




def szBr (left : Int) (b : Br) : Int := szOf left b.w.length



end Go.Proofs.YtccdnmafakaleaaGreatDoor
