/-
  Permutations as lists; own rows written in place. Nothing of the program stands here but the type's number.
-/
import Derived.Test.YtccdnmafakaleaaGreatDoorGar2
import Derived.Test.YtccdnmafakaleaaGreatDoorMark
import Derived.Test.YtccdnmafakaleaaGreatDoorNst
import Derived.Test.YtccdnmafakaleaaGreatDoorInt
namespace Go.Proofs.YtccdnmafakaleaaGreatDoor
set_option linter.unusedVariables false
set_option linter.unusedSimpArgs false
open Go.RowKit

/-- A permutation as the list of its places. -/
def lst (n : Nat) (p : Pm) : List Int := (List.range n).map fun i => ((p.f i : Nat) : Int)
theorem lst_len (n : Nat) (p : Pm) : (lst n p).length = n := by simp [lst]
theorem lst_get {n : Nat} {p : Pm} {k : Nat} (h : k < n) : (lst n p)[k]? = some ((p.f k : Nat) : Int) := by simp [lst, h]
theorem lst_inj {n : Nat} {p q : Pm} (hp : p.On n) (hq : q.On n) (h : lst n p = lst n q) : p = q := Pm.ext' fun i => by
  rcases Nat.lt_or_ge i n with hi | hi
  · have h1 : (lst n p)[i]? = (lst n q)[i]? := by rw [h]
    rw [lst_get hi, lst_get hi] at h1
    injection h1 with h1
    omega
  · rw [hp i hi, hq i hi]
namespace Pm
def inv (p : Pm) : Pm := ⟨p.g, p.f, p.gf, p.fg⟩
theorem On.inv {n : Nat} {p : Pm} (h : On n p) : On n p.inv := fun i hi => h.g hi
/-- One and then the other. -/
def comp (a b : Pm) : Pm := ⟨fun i => b.f (a.f i), fun i => a.g (b.g i), fun i => by simp only [a.fg, b.fg], fun i => by simp only [b.gf, a.gf]⟩
end Pm

theorem Only.drew {lo hi : Nat} {a w : World} (h : Only lo hi a w) : Only lo hi a w.drew := ⟨h.os, h.tape, h.output, h.size, h.block⟩
theorem below_drewN {B : Nat} {a w : World} (h : Below B a w) (n : Nat) : Below B a (w.drewN n) := ⟨h.os, h.tape, h.output, h.size, h.block⟩
/-! ### Own rows -/
theorem OwC.row {w : World} {lo hi E sz n : Nat} {v : Value} {xs : List Value} (h : OwC w lo hi E sz v n xs) (hn : 0 < n) :
    ∃ g cap f, v = .slice (some ⟨g, 0, none⟩) n cap ∧ lo ≤ g ∧ g < hi ∧ w.rowIs g E (cap * sz) f ∧ n ≤ cap ∧ cap ≤ maxLen ∧ ∀ j, j < n * sz → xs[j]? = some (f j) := by
  rcases h.2 with ⟨h0, _⟩ | ⟨g, cap, cur, rfl, hlo, hhi, hg, hnc, hcap, hsz, hx⟩
  · omega
  · have hle : n * sz ≤ cap * sz := Nat.mul_le_mul_right _ hnc
    refine ⟨g, cap, fun i => cur.getD i undef, rfl, hlo, hhi, ⟨cur, hg, hsz, fun i hi => row_getD (by omega)⟩, hnc, hcap, fun j hj => ?_⟩
    rw [← hx, List.getElem?_take, if_pos hj, Array.getElem?_toList]
    exact row_getD (by omega)
theorem OwC.of_rowC {w : World} {lo hi g E cap sz n : Nat} {f : Nat → Value} {xs : List Value} (hr : w.rowIs g E (cap * sz) f) (h1 : lo ≤ g) (h2 : g < hi) (hn : n ≤ cap) (hc : cap ≤ maxLen) (hl : xs.length = n * sz) (hx : ∀ j, j < n * sz → xs[j]? = some (f j)) :
    OwC w lo hi E sz (.slice (some ⟨g, 0, none⟩) n cap) n xs := by
  refine ⟨hl, .inr ?_⟩
  obtain ⟨cur, g1, g2, g3⟩ := hr
  have hle : n * sz ≤ cap * sz := Nat.mul_le_mul_right _ hn
  refine ⟨g, cap, cur, rfl, h1, h2, g1, hn, hc, g2, ?_⟩
  apply List.ext_getElem?
  intro j
  by_cases hj : j < n * sz
  · rw [List.getElem?_take, if_pos hj, Array.getElem?_toList, g3 j (by omega), hx j hj]
  · rw [List.getElem?_eq_none (by simp; omega), List.getElem?_eq_none (by omega)]
/-- A row filled with numbers. -/
theorem OwC.of_fill {w : World} {lo g E n : Nat} {f : Nat → Value} {val : Nat → Int} (hr : w.rowIs g E n f) (h1 : lo ≤ g) (hn : n ≤ maxLen) (hf : ∀ j, j < n → f j = .int .i64 (val j)) :
    OwC w lo w.heap.size E 1 (.slice (some ⟨g, 0, none⟩) n n) n (vI ((List.range n).map val)) := by
  refine OwC.of_rowC (f := f) (by rw [Nat.mul_one]; exact hr) h1 ?_ (Nat.le_refl _) hn (by simp [vI]) (fun j hj => ?_)
  · obtain ⟨cur, g1, _⟩ := hr
    exact (Array.getElem?_eq_some_iff.1 g1).1
  · rw [hf j (by omega)]
    simp [vI, show j < n by omega]
/-- Where the cells of what is read lie. -/
theorem RdI.base {w : World} {B n c : Nat} {A : Option Addr} {l : List Int} (h : RdI w B (.slice A n c) l) (hn : 0 < n) :
    ∃ b off, A = some ⟨b, off, none⟩ ∧ b < B ∧ ∀ k x, l[k]? = some x → w.cell? ⟨b, off + k, none⟩ = some (.int .i64 x) := by
  obtain ⟨A', n', c', e, _, hl, h⟩ := h
  injection e with e1 e2 e3
  subst e1 e2 e3
  obtain ⟨b, off, x, rfl, hb, _, _⟩ := h 0 hn
  refine ⟨b, off, rfl, hb, fun k y hy => ?_⟩
  have hk : k < n := by rw [← hl.out]; exact (List.getElem?_eq_some_iff.1 hy).1
  obtain ⟨b', off', x', e', _, hx', hc'⟩ := h k hk
  injection e' with e'
  injection e' with e1 e2
  subst e1 e2
  rw [hx'] at hy
  injection hy with hy
  subst hy
  exact hc'
/-- A filled-in cell more. -/
theorem fill_next {f : Nat → Value} {val : Nat → Int} {k : Nat} {u : Value} (hf : ∀ j, j < k → f j = .int .i64 (val j)) (hu : u = .int .i64 (val k)) : ∀ j, j < k + 1 → (fun j => if j = k then u else f j) j = .int .i64 (val j) := by
  intro j hj
  show (if j = k then u else f j) = _
  by_cases h : j = k
  · rw [if_pos h, hu, h]
  · rw [if_neg h]; exact hf j (by omega)
def GivesL (w : World) (l : List Int) (e : Ending) (w' : World) : Prop := ∃ v, e = .returned v ∧ OwC w' w.heap.size w'.heap.size 2 1 v l.length (vI l) ∧ Below w.heap.size w w'
theorem GivesL.mk {w w' : World} {n : Nat} {v : Value} {val : Nat → Int} (ho : OwC w' w.heap.size w'.heap.size 2 1 v n (vI ((List.range n).map val))) (hb : Below w.heap.size w w') : GivesL w ((List.range n).map val) (.returned v) w' :=
  ⟨v, rfl, by simpa using ho, hb⟩

end Go.Proofs.YtccdnmafakaleaaGreatDoor
