/-
  A machine of a call's own, which may be written: each of its rows in a block of its own.
-/
import Derived.Test.YtogaellhkjjeaaaSpt
import Derived.Test.YtogaellhkjjeaaaMcFab
namespace Go.Proofs.Ytogaellhkjjeaaa
set_option linter.unusedVariables false
set_option linter.unusedSimpArgs false
open Go.RowKit

def iF (k : Nat) : Nat := 3 * k + 6
def iB (k : Nat) : Nat := 3 * k + 7
def iP (k : Nat) : Nat := 3 * k + 8
/-- Row 0: the box at g; 1, 2: the beds; 3: the carriers; 4: the loops; 5: what was dropped; then the needles of the front, of the back, and the loops' parents. -/
structure MSt (w : World) (B g : Nat) (m : Mc) (S : Nat → Spot) : Prop where
  sp : SpotsT w B S
  box : S 0 = ⟨29, 7, .slice (some ⟨g, 0, none⟩) 1 1, 1, [.int .i64 m.wd, .int .i64 m.rk, (S 1).v, (S 2).v, (S 3).v, (S 4).v, (S 5).v]⟩
  fr : ∃ xs, S 1 = ⟨27, 1, (S 1).v, m.fr.length, xs⟩ ∧ ∀ k, k < m.fr.length → xs[k]? = some (S (iF k)).v
  bk : ∃ xs, S 2 = ⟨27, 1, (S 2).v, m.bk.length, xs⟩ ∧ ∀ k, k < m.bk.length → xs[k]? = some (S (iB k)).v
  cs : S 3 = ⟨78, 2, (S 3).v, m.cs.length, vS Car.cells m.cs⟩
  ls : ∃ xs, S 4 = ⟨37, 6, (S 4).v, m.ls.length, xs⟩ ∧ ∀ k x, m.ls[k]? = some x → ∀ j u, [Value.int .i64 x.k, .int .i64 x.y, .int .i64 x.b, .int .i64 x.p, .int .i64 x.d, (S (iP k)).v][j]? = some u → xs[k * 6 + j]? = some u
  dr : S 5 = spI (S 5).v m.dr
  fl : ∀ k l, m.fr[k]? = some l → S (iF k) = spI (S (iF k)).v l
  bl : ∀ k l, m.bk[k]? = some l → S (iB k) = spI (S (iB k)).v l
  pl : ∀ k x, m.ls[k]? = some x → S (iP k) = spI (S (iP k)).v x.ps

/-- A row of elements, each of which is read by R. -/
theorem RdN.of_row {α : Type} {R : World → Nat → List Value → α → Prop} {sz : Nat} {w : World} {B E : Nat} {v : Value} {l : List α} {xs : List Value} (h : w.ownsRow B E sz v l.length xs)
    (hx : ∀ k x, l[k]? = some x → ∃ us, us.length = sz ∧ (∀ j u, us[j]? = some u → xs[k * sz + j]? = some u) ∧ R w w.heap.size us x) : RdN R sz w w.heap.size v l := by
  obtain ⟨A, c, rfl, hn, hc⟩ := (OwC.of_own h).cells
  refine ⟨A, l.length, c, rfl, hn, rfl, fun k hk => ?_⟩
  obtain ⟨g, rfl, hg0, hg1, hfr, hcell⟩ := hc k hk
  have hxk : l[k]? = some l[k] := List.getElem?_eq_getElem hk
  obtain ⟨us, hu1, hu2, hu3⟩ := hx k _ hxk
  refine ⟨g, 0, l[k], us, rfl, by omega, hxk, hu1, fun j u hu => ?_, hu3⟩
  have hj : j < sz := by have := (List.getElem?_eq_some_iff.1 hu).1; omega
  have hlt : k * sz + j < l.length * sz := by
    have : (k + 1) * sz ≤ l.length * sz := Nat.mul_le_mul_right _ hk
    rw [Nat.add_mul] at this
    omega
  rw [Nat.zero_add]
  exact hcell _ u hlt (hu2 j u hu)
section
variable {w w' : World} {B g : Nat} {m : Mc} {S : Nat → Spot}
theorem MSt.below (h : MSt w B g m S) (hb : Below w.heap.size w w') : MSt w' B g m S := ⟨h.sp.below hb, h.box, h.fr, h.bk, h.cs, h.ls, h.dr, h.fl, h.bl, h.pl⟩
theorem MSt.drewN (h : MSt w B g m S) (n : Nat) : MSt (w.drewN n) B g m S := ⟨h.sp.drewN n, h.box, h.fr, h.bk, h.cs, h.ls, h.dr, h.fl, h.bl, h.pl⟩
theorem MSt.drew (h : MSt w B g m S) : MSt w.drew B g m S := ⟨h.sp.drew, h.box, h.fr, h.bk, h.cs, h.ls, h.dr, h.fl, h.bl, h.pl⟩
theorem MSt.keep (h : MSt w B g m S) (hk : ∀ j g, (S j).v.ownBlock = some g → w'.heap[g]? = w.heap[g]?) : MSt w' B g m S := ⟨h.sp.keep hk, h.box, h.fr, h.bk, h.cs, h.ls, h.dr, h.fl, h.bl, h.pl⟩
theorem spI_own {s : Spot} {v : Value} {l : List Int} (h : s.owned w B) (e : s = spI v l) : w.ownsRow B 2 1 v l.length (vI l) := by
  rw [e] at h
  exact h
theorem spI_rd {s : Spot} {v : Value} {l : List Int} (h : s.owned w B) (e : s = spI v l) : RdI w w.heap.size v l ∧ CapOk v :=
  ⟨RdI.of_own (OwC.of_own (spI_own h e)), (OwC.of_own (spI_own h e)).cap⟩
theorem MSt.owned (h : MSt w B g m S) {j : Nat} {E : TypeId} {sz n : Nat} {xs : List Value} (e : S j = ⟨E, sz, (S j).v, n, xs⟩) : w.ownsRow B E sz (S j).v n xs := by
  have h1 := h.sp.own j
  rw [e] at h1
  exact h1
theorem MSt.gbox (h : MSt w B g m S) : (S 0).v.ownBlock = some g := by rw [h.box]; rfl
theorem MSt.cells (h : MSt w B g m S) : CellsAt w g 0 [.int .i64 m.wd, .int .i64 m.rk, (S 1).v, (S 2).v, (S 3).v, (S 4).v, (S 5).v] := fun j u hu => by
  rw [Nat.zero_add]
  exact (Spot.cell (h.sp.own 0) h.gbox (by rw [h.box]; exact hu)).1
theorem MSt.frozen (h : MSt w B g m S) (o : Nat) : w.frozen? ⟨g, o, none⟩ = false :=
  (Spot.cell (s := S 0) (i := 0) (x := .int .i64 m.wd) (h.sp.own 0) h.gbox (by rw [h.box]; rfl)).2 o
/-- It is read behind its pointer. -/
theorem MSt.rd (h : MSt w B g m S) : RdP w g m := by
  refine ⟨_, _, _, _, _, h.cells, ?_, ?_, ?_, ?_, (spI_rd (h.sp.own 5) h.dr).1, (spI_rd (h.sp.own 5) h.dr).2⟩
  · obtain ⟨xs, e, hx⟩ := h.fr
    refine RdN.of_row (h.owned e) (fun k x hk => ⟨[(S (iF k)).v], rfl, fun j u hu => ?_, _, rfl, spI_rd (h.sp.own _) (h.fl k x hk)⟩)
    obtain rfl : j = 0 := by have := (List.getElem?_eq_some_iff.1 hu).1; simp at this; omega
    rw [Nat.mul_one, Nat.add_zero, hx k (List.getElem?_eq_some_iff.1 hk).1]
    exact hu
  · obtain ⟨xs, e, hx⟩ := h.bk
    refine RdN.of_row (h.owned e) (fun k x hk => ⟨[(S (iB k)).v], rfl, fun j u hu => ?_, _, rfl, spI_rd (h.sp.own _) (h.bl k x hk)⟩)
    obtain rfl : j = 0 := by have := (List.getElem?_eq_some_iff.1 hu).1; simp at this; omega
    rw [Nat.mul_one, Nat.add_zero, hx k (List.getElem?_eq_some_iff.1 hk).1]
    exact hu
  · exact RdS.of_own Car.len (OwC.of_own (h.owned h.cs))
  · obtain ⟨xs, e, hx⟩ := h.ls
    exact RdN.of_row (h.owned e) (fun k x hk => ⟨_, rfl, hx k x hk, _, rfl, spI_rd (h.sp.own _) (h.pl k x hk)⟩)
end

end Go.Proofs.Ytogaellhkjjeaaa
