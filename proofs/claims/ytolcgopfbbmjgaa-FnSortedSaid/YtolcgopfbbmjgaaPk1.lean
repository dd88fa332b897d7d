/-
  Texts joined: Spt, Ms, Ms2, Mv, Do0, Weak0, Do1, Ms3, Tfc, Uk0.
-/
import Derived.Test.YtolcgopfbbmjgaaSpot
import Derived.Test.YtolcgopfbbmjgaaMcFab
import Derived.Test.YtolcgopfbbmjgaaOpL
import Derived.Test.YtolcgopfbbmjgaaPlc
/-
  Own rows side by side, as many as are wanted.
-/
namespace Go.Proofs.Ytolcgopfbbmjgaa
set_option linter.unusedVariables false
set_option linter.unusedSimpArgs false
open Go.RowKit

theorem Spots.less {w : World} {B N M : Nat} {S : Nat → Spot} (h : Spots w B N S) (hM : M ≤ N) : Spots w B M S :=
  ⟨fun j hj => h.own j (by omega), fun i j g hi hj hij hg => h.dis i j g (by omega) (by omega) hij hg⟩
/-- The rows, one to each number. -/
def SpotsT (w : World) (B : Nat) (S : Nat → Spot) : Prop := ∀ N, Spots w B N S
section
variable {w w' : World} {B : Nat} {S : Nat → Spot}
theorem SpotsT.own (h : SpotsT w B S) (j : Nat) : (S j).owned w B := (h (j + 1)).own j (by omega)
theorem SpotsT.dis (h : SpotsT w B S) {i j g : Nat} (hij : i ≠ j) (hg : (S i).v.ownBlock = some g) : (S j).v.ownBlock ≠ some g := (h (i + j + 1)).dis i j g (by omega) (by omega) hij hg
theorem SpotsT.lt (h : SpotsT w B S) {j g : Nat} (hg : (S j).v.ownBlock = some g) : B ≤ g ∧ g < w.heap.size := World.ownsRow.lt (h.own j) g hg
theorem SpotsT.below (h : SpotsT w B S) (hb : Below w.heap.size w w') : SpotsT w' B S := fun N => (h N).below hb
theorem SpotsT.alloc (h : SpotsT w B S) (o : Obj) : SpotsT (w.alloc o) B S := fun N => (h N).alloc o
theorem SpotsT.drew (h : SpotsT w B S) : SpotsT w.drew B S := fun N => (h N).drew
theorem SpotsT.drewN (h : SpotsT w B S) (n : Nat) : SpotsT (w.drewN n) B S := fun N => ⟨fun j hj => (h N).own j hj, (h N).dis⟩
theorem SpotsT.app (h : SpotsT w B S) (p : Nat) (s : Spot) (hown : s.owned w' B) (hg : w.grownBy w' (S p).v.ownBlock) (hat : s.v.ownBlock = (S p).v.ownBlock ∨ s.v.ownBlock = some w.heap.size) : SpotsT w' B (putS S p s) :=
  fun N => ((h (N + p + 1)).app (by omega) s hown hg hat).less (by omega)
theorem SpotsT.put (h : SpotsT w B S) (p : Nat) (s : Spot) (hown : s.owned w B) (hat : ∀ g, s.v.ownBlock = some g → (S p).v.ownBlock = some g ∨ ∀ j, j ≠ p → (S j).v.ownBlock ≠ some g) : SpotsT w B (putS S p s) :=
  fun N => ((h (N + p + 1)).put p s hown (fun g hg => (hat g hg).elim (fun e => .inl ⟨by omega, e⟩) (fun e => .inr fun j _ hj => e j hj))).less (by omega)
theorem SpotsT.putNone (h : SpotsT w B S) (p : Nat) (E : TypeId) (sz : Nat) : SpotsT w B (putS S p (Spot.none_ E sz)) := fun N => (h N).putNone p E sz
theorem SpotsT.putNew (h : SpotsT w B S) (hb : Below w.heap.size w w') (p : Nat) (s : Spot) (hown : s.owned w' w.heap.size) (hB : B ≤ w.heap.size) : SpotsT w' B (putS S p s) := fun N => (h N).putNew hb p s hown hB
theorem SpotsT.setCell (h : SpotsT w B S) {p g i : Nat} (hg : (S p).v.ownBlock = some g) (u : Value) (hi : i < (S p).n * (S p).sz) : SpotsT (w.setCell ⟨g, i, none⟩ u) B (putS S p { S p with xs := (S p).xs.set i u }) :=
  fun N => ((h (N + p + 1)).setCell (by omega) hg u hi).less (by omega)
theorem SpotsT.far (h : SpotsT w B S) {p : Addr} (hp : p.block < B) (u : Value) : SpotsT (w.setCell p u) B S := fun N => (h N).far hp u
/-- A cell outside of all rows. -/
theorem SpotsT.out (h : SpotsT w B S) {p : Addr} (hp : ∀ j, (S j).v.ownBlock ≠ some p.block) (u : Value) : SpotsT (w.setCell p u) B S :=
  fun N => ⟨fun j hj => own_far (h.own j) (hp j) u, (h N).dis⟩
/-- What stands outside of the rows changes: the rows stay. -/
theorem SpotsT.keep (h : SpotsT w B S) (hk : ∀ j g, (S j).v.ownBlock = some g → w'.heap[g]? = w.heap[g]?) : SpotsT w' B S := fun N => by
  refine ⟨fun j hj => ⟨(h.own j).1, ?_⟩, (h N).dis⟩
  rcases (h.own j).2 with h2 | ⟨g, cap, cur, hv, hb, hh, h3⟩
  · exact .inl h2
  · exact .inr ⟨g, cap, cur, hv, hb, (hk j g (by rw [hv]; rfl)).trans hh, h3⟩
end
/-- The rows that a world holds when it is opened: none. -/
theorem SpotsT.none_ (w : World) (B : Nat) (E : TypeId) (sz : Nat) : SpotsT w B (fun _ => Spot.none_ E sz) := fun N => ⟨fun j _ => World.ownsRow_nil _ _ _ _, fun i j g _ _ _ hg => by cases hg⟩
/-- What a row's cell holds. -/
theorem Spot.cell {s : Spot} {w : World} {B g i : Nat} {x : Value} (h : s.owned w B) (hg : s.v.ownBlock = some g) (hx : s.xs[i]? = some x) : w.cell? ⟨g, i, none⟩ = some x ∧ ∀ o, w.frozen? ⟨g, o, none⟩ = false := by
  have hi : i < s.xs.length := (List.getElem?_eq_some_iff.1 hx).1
  have hl := h.1
  rcases h.2 with ⟨hv, _⟩ | ⟨g', cap, cur, hv, hb, hh, hn, hc, hs, hxs⟩
  · rw [hv] at hg; cases hg
  · rw [hv] at hg
    injection hg with hg
    simp only at hg
    subst hg
    refine ⟨?_, fun o => frozen_of_row w g' o cur _ hh⟩
    rw [cell_of_row w g' i cur _ (0, 0) hh, ← Array.getElem?_toList, ← hx, ← hxs, List.getElem?_take, if_pos (by omega)]

end Go.Proofs.Ytolcgopfbbmjgaa

/-
  A machine of a call's own, which may be written: each of its rows in a block of its own.
-/
namespace Go.Proofs.Ytolcgopfbbmjgaa
set_option linter.unusedVariables false
set_option linter.unusedSimpArgs false
open Go.RowKit

def iF (k : Nat) : Nat := 3 * k + 6
def iB (k : Nat) : Nat := 3 * k + 7
def iP (k : Nat) : Nat := 3 * k + 8
/-- Row 0: the box at g; 1, 2: the beds; 3: the carriers; 4: the loops; 5: what was dropped; then the needles of the front, of the back, and the loops' parents. -/
structure MSt (w : World) (B g : Nat) (m : Mc) (S : Nat → Spot) : Prop where
  sp : SpotsT w B S
  box : S 0 = ⟨41, 7, .slice (some ⟨g, 0, none⟩) 1 1, 1, [.int .i64 m.wd, .int .i64 m.rk, (S 1).v, (S 2).v, (S 3).v, (S 4).v, (S 5).v]⟩
  fr : ∃ xs, S 1 = ⟨39, 1, (S 1).v, m.fr.length, xs⟩ ∧ ∀ k, k < m.fr.length → xs[k]? = some (S (iF k)).v
  bk : ∃ xs, S 2 = ⟨39, 1, (S 2).v, m.bk.length, xs⟩ ∧ ∀ k, k < m.bk.length → xs[k]? = some (S (iB k)).v
  cs : S 3 = ⟨74, 2, (S 3).v, m.cs.length, vS Car.cells m.cs⟩
  ls : ∃ xs, S 4 = ⟨76, 6, (S 4).v, m.ls.length, xs⟩ ∧ ∀ k x, m.ls[k]? = some x → ∀ j u, [Value.int .i64 x.k, .int .i64 x.y, .int .i64 x.b, .int .i64 x.p, .int .i64 x.d, (S (iP k)).v][j]? = some u → xs[k * 6 + j]? = some u
  dr : S 5 = spI (S 5).v m.dr
  fl : ∀ k l, m.fr[k]? = some l → S (iF k) = spI (S (iF k)).v l
  bl : ∀ k l, m.bk[k]? = some l → S (iB k) = spI (S (iB k)).v l
  pl : ∀ k x, m.ls[k]? = some x → S (iP k) = spI (S (iP k)).v x.ps

/-- A row of elements, each of which is read by R. -/
theorem RdN.of_row {α : Type} {R : World → Nat → List Value → α → Prop} {sz : Nat} {w : World} {B E : Nat} {v : Value} {l : List α} {xs : List Value} (h : w.ownsRow B E sz v l.length xs)
    (hx : ∀ k x, l[k]? = some x → ∃ us, us.length = sz ∧ (∀ j u, us[j]? = some u → xs[k * sz + j]? = some u) ∧ R w w.heap.size us x) : RdN R sz w w.heap.size v l := by
  obtain ⟨A, c, rfl, hn, hc⟩ := (OwC.of_own h).cells
  refine ⟨A, l.length, c, rfl, hn, rfl, fun k hk => ?_⟩
  obtain ⟨g, rfl, hg0, hg1, hfr, hcell⟩ := hc k hk
  have hxk : l[k]? = some l[k] := List.getElem?_eq_getElem hk
  obtain ⟨us, hu1, hu2, hu3⟩ := hx k _ hxk
  refine ⟨g, 0, l[k], us, rfl, by omega, hxk, hu1, fun j u hu => ?_, hu3⟩
  have hj : j < sz := by have := (List.getElem?_eq_some_iff.1 hu).1; omega
  have hlt : k * sz + j < l.length * sz := by
    have : (k + 1) * sz ≤ l.length * sz := Nat.mul_le_mul_right _ hk
    rw [Nat.add_mul] at this
    omega
  rw [Nat.zero_add]
  exact hcell _ u hlt (hu2 j u hu)
section
variable {w w' : World} {B g : Nat} {m : Mc} {S : Nat → Spot}
theorem MSt.below (h : MSt w B g m S) (hb : Below w.heap.size w w') : MSt w' B g m S := ⟨h.sp.below hb, h.box, h.fr, h.bk, h.cs, h.ls, h.dr, h.fl, h.bl, h.pl⟩
theorem MSt.drewN (h : MSt w B g m S) (n : Nat) : MSt (w.drewN n) B g m S := ⟨h.sp.drewN n, h.box, h.fr, h.bk, h.cs, h.ls, h.dr, h.fl, h.bl, h.pl⟩
theorem MSt.drew (h : MSt w B g m S) : MSt w.drew B g m S := ⟨h.sp.drew, h.box, h.fr, h.bk, h.cs, h.ls, h.dr, h.fl, h.bl, h.pl⟩
theorem MSt.keep (h : MSt w B g m S) (hk : ∀ j g, (S j).v.ownBlock = some g → w'.heap[g]? = w.heap[g]?) : MSt w' B g m S := ⟨h.sp.keep hk, h.box, h.fr, h.bk, h.cs, h.ls, h.dr, h.fl, h.bl, h.pl⟩
theorem spI_own {s : Spot} {v : Value} {l : List Int} (h : s.owned w B) (e : s = spI v l) : w.ownsRow B 2 1 v l.length (vI l) := by
  rw [e] at h
  exact h
theorem spI_rd {s : Spot} {v : Value} {l : List Int} (h : s.owned w B) (e : s = spI v l) : RdI w w.heap.size v l ∧ CapOk v :=
  ⟨RdI.of_own (OwC.of_own (spI_own h e)), (OwC.of_own (spI_own h e)).cap⟩
theorem MSt.owned (h : MSt w B g m S) {j : Nat} {E : TypeId} {sz n : Nat} {xs : List Value} (e : S j = ⟨E, sz, (S j).v, n, xs⟩) : w.ownsRow B E sz (S j).v n xs := by
  have h1 := h.sp.own j
  rw [e] at h1
  exact h1
theorem MSt.gbox (h : MSt w B g m S) : (S 0).v.ownBlock = some g := by rw [h.box]; rfl
theorem MSt.cells (h : MSt w B g m S) : CellsAt w g 0 [.int .i64 m.wd, .int .i64 m.rk, (S 1).v, (S 2).v, (S 3).v, (S 4).v, (S 5).v] := fun j u hu => by
  rw [Nat.zero_add]
  exact (Spot.cell (h.sp.own 0) h.gbox (by rw [h.box]; exact hu)).1
theorem MSt.frozen (h : MSt w B g m S) (o : Nat) : w.frozen? ⟨g, o, none⟩ = false :=
  (Spot.cell (s := S 0) (i := 0) (x := .int .i64 m.wd) (h.sp.own 0) h.gbox (by rw [h.box]; rfl)).2 o
/-- It is read behind its pointer. -/
theorem MSt.rd (h : MSt w B g m S) : RdP w g m := by
  refine ⟨_, _, _, _, _, h.cells, ?_, ?_, ?_, ?_, (spI_rd (h.sp.own 5) h.dr).1, (spI_rd (h.sp.own 5) h.dr).2⟩
  · obtain ⟨xs, e, hx⟩ := h.fr
    refine RdN.of_row (h.owned e) (fun k x hk => ⟨[(S (iF k)).v], rfl, fun j u hu => ?_, _, rfl, spI_rd (h.sp.own _) (h.fl k x hk)⟩)
    obtain rfl : j = 0 := by have := (List.getElem?_eq_some_iff.1 hu).1; simp at this; omega
    rw [Nat.mul_one, Nat.add_zero, hx k (List.getElem?_eq_some_iff.1 hk).1]
    exact hu
  · obtain ⟨xs, e, hx⟩ := h.bk
    refine RdN.of_row (h.owned e) (fun k x hk => ⟨[(S (iB k)).v], rfl, fun j u hu => ?_, _, rfl, spI_rd (h.sp.own _) (h.bl k x hk)⟩)
    obtain rfl : j = 0 := by have := (List.getElem?_eq_some_iff.1 hu).1; simp at this; omega
    rw [Nat.mul_one, Nat.add_zero, hx k (List.getElem?_eq_some_iff.1 hk).1]
    exact hu
  · exact RdS.of_own Car.len (OwC.of_own (h.owned h.cs))
  · obtain ⟨xs, e, hx⟩ := h.ls
    exact RdN.of_row (h.owned e) (fun k x hk => ⟨_, rfl, hx k x hk, _, rfl, spI_rd (h.sp.own _) (h.pl k x hk)⟩)
end

end Go.Proofs.Ytolcgopfbbmjgaa

/-
  What is written into a machine of a call's own.
-/
namespace Go.Proofs.Ytolcgopfbbmjgaa
set_option linter.unusedVariables false
set_option linter.unusedSimpArgs false
open Go.RowKit

section
variable {w w' : World} {B g : Nat} {m : Mc} {S : Nat → Spot}
theorem MSt.gF (h : MSt w B g m S) (hn : 0 < m.fr.length) : ∃ b cap, (S 1).v = .slice (some ⟨b, 0, none⟩) m.fr.length cap ∧ B ≤ b ∧ b < w.heap.size ∧ m.fr.length ≤ cap ∧ (S 1).v.ownBlock = some b := by
  obtain ⟨xs, e, _⟩ := h.fr
  exact row_slice (h.owned e) hn
theorem MSt.gB (h : MSt w B g m S) (hn : 0 < m.bk.length) : ∃ b cap, (S 2).v = .slice (some ⟨b, 0, none⟩) m.bk.length cap ∧ B ≤ b ∧ b < w.heap.size ∧ m.bk.length ≤ cap ∧ (S 2).v.ownBlock = some b := by
  obtain ⟨xs, e, _⟩ := h.bk
  exact row_slice (h.owned e) hn
theorem MSt.gC (h : MSt w B g m S) (hn : 0 < m.cs.length) : ∃ b cap, (S 3).v = .slice (some ⟨b, 0, none⟩) m.cs.length cap ∧ B ≤ b ∧ b < w.heap.size ∧ m.cs.length ≤ cap ∧ (S 3).v.ownBlock = some b := row_slice (h.owned h.cs) hn
/-- One needle's header, and its list. -/
theorem MSt.listF (h : MSt w B g m S) {k b : Nat} (hk : k < m.fr.length) (hb : (S 1).v.ownBlock = some b) : w.cell? ⟨b, k, none⟩ = some (S (iF k)).v ∧ (∀ o, w.frozen? ⟨b, o, none⟩ = false) ∧ S (iF k) = spI (S (iF k)).v m.fr[k] := by
  obtain ⟨xs, e, hx⟩ := h.fr
  obtain ⟨h1, h2⟩ := Spot.cell (h.sp.own 1) hb (x := (S (iF k)).v) (i := k) (by rw [e]; exact hx k hk)
  exact ⟨h1, h2, h.fl k _ (List.getElem?_eq_getElem hk)⟩
theorem MSt.listB (h : MSt w B g m S) {k b : Nat} (hk : k < m.bk.length) (hb : (S 2).v.ownBlock = some b) : w.cell? ⟨b, k, none⟩ = some (S (iB k)).v ∧ (∀ o, w.frozen? ⟨b, o, none⟩ = false) ∧ S (iB k) = spI (S (iB k)).v m.bk[k] := by
  obtain ⟨xs, e, hx⟩ := h.bk
  obtain ⟨h1, h2⟩ := Spot.cell (h.sp.own 2) hb (x := (S (iB k)).v) (i := k) (by rw [e]; exact hx k hk)
  exact ⟨h1, h2, h.bl k _ (List.getElem?_eq_getElem hk)⟩
/-- A needle of the front is given another list. -/
theorem MSt.setF {k b : Nat} {l' : List Int} {v' : Value} (h : MSt w B g m S) (hk : k < m.fr.length) (hb : (S 1).v.ownBlock = some b) (hsp : SpotsT w' B (putS S (iF k) (spI v' l'))) :
    MSt (w'.setCell ⟨b, k, none⟩ v') B g { m with fr := m.fr.set k l' } (putS (putS S (iF k) (spI v' l')) 1 { S 1 with xs := (S 1).xs.set k v' }) := by
  have hne : iF k ≠ 1 := by unfold iF; omega
  have e1 : putS S (iF k) (spI v' l') 1 = S 1 := putS_ne (fun e => hne e.symm)
  have hsz : k < (S 1).n * (S 1).sz := by obtain ⟨xs, e, _⟩ := h.fr; rw [e]; show k < m.fr.length * 1; omega
  have hsp2 := hsp.setCell (p := 1) (g := b) (i := k) (by rw [e1]; exact hb) v' (by rw [e1]; exact hsz)
  rw [e1] at hsp2
  have ev : ∀ j, j ≠ 1 → j ≠ iF k → (putS (putS S (iF k) (spI v' l')) 1 { S 1 with xs := (S 1).xs.set k v' }) j = S j := fun j h1 h2 => by rw [putS_ne h1, putS_ne h2]
  have ek : (putS (putS S (iF k) (spI v' l')) 1 { S 1 with xs := (S 1).xs.set k v' }) (iF k) = spI v' l' := by rw [putS_ne hne, putS_same]
  have e1' : (putS (putS S (iF k) (spI v' l')) 1 { S 1 with xs := (S 1).xs.set k v' }) 1 = { S 1 with xs := (S 1).xs.set k v' } := putS_same _ _ _
  refine ⟨hsp2, ?_, ?_, ?_, ?_, ?_, ?_, fun j l hl => ?_, fun j l hl => ?_, fun j x hx => ?_⟩
  · rw [ev 0 (by omega) (by unfold iF; omega), e1', ev 2 (by omega) (by unfold iF; omega), ev 3 (by omega) (by unfold iF; omega), ev 4 (by omega) (by unfold iF; omega), ev 5 (by omega) (by unfold iF; omega)]
    exact h.box
  · obtain ⟨xs, e, hx⟩ := h.fr
    refine ⟨(S 1).xs.set k v', ?_, fun j hj => ?_⟩
    · rw [e1']
      show (⟨(S 1).E, (S 1).sz, (S 1).v, (S 1).n, _⟩ : Spot) = ⟨_, _, (S 1).v, (m.fr.set k l').length, _⟩
      rw [List.length_set]
      have h1 : (S 1).E = 39 := by rw [e]
      have h2 : (S 1).sz = 1 := by rw [e]
      have h3 : (S 1).n = m.fr.length := by rw [e]
      rw [h1, h2, h3]
    · have hj' : j < m.fr.length := by simpa using hj
      have hxs : (S 1).xs = xs := by rw [e]
      have hxl : (S 1).xs.length = m.fr.length := by have := (h.owned e).1; rw [hxs, this]; omega
      by_cases hjk : j = k
      · rw [hjk, ek, List.getElem?_set_self (by omega)]
      · rw [ev _ (by unfold iF; omega) (by unfold iF; omega), List.getElem?_set_ne (fun e => hjk e.symm), hxs]
        exact hx j hj'
  · obtain ⟨xs, e, hx⟩ := h.bk
    rw [ev 2 (by omega) (by unfold iF; omega)]
    refine ⟨xs, e, fun j hj => ?_⟩
    rw [ev _ (by unfold iB; omega) (by unfold iB iF; omega)]
    exact hx j hj
  · rw [ev 3 (by omega) (by unfold iF; omega)]; exact h.cs
  · obtain ⟨xs, e, hx⟩ := h.ls
    rw [ev 4 (by omega) (by unfold iF; omega)]
    refine ⟨xs, e, fun j x hj => ?_⟩
    rw [ev _ (by unfold iP; omega) (by unfold iP iF; omega)]
    exact hx j x hj
  · rw [ev 5 (by omega) (by unfold iF; omega)]; exact h.dr
  · by_cases hjk : j = k
    · subst hjk
      have hl' : (m.fr.set j l')[j]? = some l := hl
      rw [List.getElem?_set_self hk] at hl'
      injection hl' with hl'
      subst hl'
      rw [ek]
    · have hl' : (m.fr.set k l')[j]? = some l := hl
      rw [List.getElem?_set_ne (fun e => hjk e.symm)] at hl'
      rw [ev _ (by unfold iF; omega) (by unfold iF; omega)]
      exact h.fl j l hl'
  · rw [ev _ (by unfold iB; omega) (by unfold iB iF; omega)]; exact h.bl j l hl
  · rw [ev _ (by unfold iP; omega) (by unfold iP iF; omega)]; exact h.pl j x hx
/-- A needle of the back is given another list. -/
theorem MSt.setB {k b : Nat} {l' : List Int} {v' : Value} (h : MSt w B g m S) (hk : k < m.bk.length) (hb : (S 2).v.ownBlock = some b) (hsp : SpotsT w' B (putS S (iB k) (spI v' l'))) :
    MSt (w'.setCell ⟨b, k, none⟩ v') B g { m with bk := m.bk.set k l' } (putS (putS S (iB k) (spI v' l')) 2 { S 2 with xs := (S 2).xs.set k v' }) := by
  have hne : iB k ≠ 2 := by unfold iB; omega
  have e1 : putS S (iB k) (spI v' l') 2 = S 2 := putS_ne (fun e => hne e.symm)
  have hsz : k < (S 2).n * (S 2).sz := by obtain ⟨xs, e, _⟩ := h.bk; rw [e]; show k < m.bk.length * 1; omega
  have hsp2 := hsp.setCell (p := 2) (g := b) (i := k) (by rw [e1]; exact hb) v' (by rw [e1]; exact hsz)
  rw [e1] at hsp2
  have ev : ∀ j, j ≠ 2 → j ≠ iB k → (putS (putS S (iB k) (spI v' l')) 2 { S 2 with xs := (S 2).xs.set k v' }) j = S j := fun j h1 h2 => by rw [putS_ne h1, putS_ne h2]
  have ek : (putS (putS S (iB k) (spI v' l')) 2 { S 2 with xs := (S 2).xs.set k v' }) (iB k) = spI v' l' := by rw [putS_ne hne, putS_same]
  have e1' : (putS (putS S (iB k) (spI v' l')) 2 { S 2 with xs := (S 2).xs.set k v' }) 2 = { S 2 with xs := (S 2).xs.set k v' } := putS_same _ _ _
  refine ⟨hsp2, ?_, ?_, ?_, ?_, ?_, ?_, fun j l hl => ?_, fun j l hl => ?_, fun j x hx => ?_⟩
  · rw [ev 0 (by omega) (by unfold iB; omega), e1', ev 1 (by omega) (by unfold iB; omega), ev 3 (by omega) (by unfold iB; omega), ev 4 (by omega) (by unfold iB; omega), ev 5 (by omega) (by unfold iB; omega)]
    exact h.box
  · obtain ⟨xs, e, hx⟩ := h.fr
    rw [ev 1 (by omega) (by unfold iB; omega)]
    refine ⟨xs, e, fun j hj => ?_⟩
    rw [ev _ (by unfold iF; omega) (by unfold iF iB; omega)]
    exact hx j hj
  · obtain ⟨xs, e, hx⟩ := h.bk
    refine ⟨(S 2).xs.set k v', ?_, fun j hj => ?_⟩
    · rw [e1']
      show (⟨(S 2).E, (S 2).sz, (S 2).v, (S 2).n, _⟩ : Spot) = ⟨_, _, (S 2).v, (m.bk.set k l').length, _⟩
      rw [List.length_set]
      have h1 : (S 2).E = 39 := by rw [e]
      have h2 : (S 2).sz = 1 := by rw [e]
      have h3 : (S 2).n = m.bk.length := by rw [e]
      rw [h1, h2, h3]
    · have hj' : j < m.bk.length := by simpa using hj
      have hxs : (S 2).xs = xs := by rw [e]
      have hxl : (S 2).xs.length = m.bk.length := by have := (h.owned e).1; rw [hxs, this]; omega
      by_cases hjk : j = k
      · rw [hjk, ek, List.getElem?_set_self (by omega)]
      · rw [ev _ (by unfold iB; omega) (by unfold iB; omega), List.getElem?_set_ne (fun e => hjk e.symm), hxs]
        exact hx j hj'
  · rw [ev 3 (by omega) (by unfold iB; omega)]; exact h.cs
  · obtain ⟨xs, e, hx⟩ := h.ls
    rw [ev 4 (by omega) (by unfold iB; omega)]
    refine ⟨xs, e, fun j x hj => ?_⟩
    rw [ev _ (by unfold iP; omega) (by unfold iP iB; omega)]
    exact hx j x hj
  · rw [ev 5 (by omega) (by unfold iB; omega)]; exact h.dr
  · rw [ev _ (by unfold iF; omega) (by unfold iF iB; omega)]; exact h.fl j l hl
  · by_cases hjk : j = k
    · subst hjk
      have hl' : (m.bk.set j l')[j]? = some l := hl
      rw [List.getElem?_set_self hk] at hl'
      injection hl' with hl'
      subst hl'
      rw [ek]
    · have hl' : (m.bk.set k l')[j]? = some l := hl
      rw [List.getElem?_set_ne (fun e => hjk e.symm)] at hl'
      rw [ev _ (by unfold iB; omega) (by unfold iB; omega)]
      exact h.bl j l hl'
  · rw [ev _ (by unfold iP; omega) (by unfold iP iB; omega)]; exact h.pl j x hx
/-- The rack is set. -/
theorem MSt.setRk {r : Int} (h : MSt w B g m S) : MSt (w.setCell ⟨g, 1, none⟩ (.int .i64 r)) B g { m with rk := r } (putS S 0 { S 0 with xs := (S 0).xs.set 1 (.int .i64 r) }) := by
  have hsp := h.sp.setCell (p := 0) (g := g) (i := 1) h.gbox (.int .i64 r) (by rw [h.box]; simp)
  have ev : ∀ j, j ≠ 0 → (putS S 0 { S 0 with xs := (S 0).xs.set 1 (.int .i64 r) }) j = S j := fun j h1 => putS_ne h1
  refine ⟨hsp, ?_, ?_, ?_, ?_, ?_, ?_, fun j l hl => ?_, fun j l hl => ?_, fun j x hx => ?_⟩
  · rw [putS_same, ev 1 (by omega), ev 2 (by omega), ev 3 (by omega), ev 4 (by omega), ev 5 (by omega), h.box]
    rfl
  · rw [ev 1 (by omega)]
    obtain ⟨xs, e, hx⟩ := h.fr
    exact ⟨xs, e, fun j hj => by rw [ev _ (by unfold iF; omega)]; exact hx j hj⟩
  · rw [ev 2 (by omega)]
    obtain ⟨xs, e, hx⟩ := h.bk
    exact ⟨xs, e, fun j hj => by rw [ev _ (by unfold iB; omega)]; exact hx j hj⟩
  · rw [ev 3 (by omega)]; exact h.cs
  · rw [ev 4 (by omega)]
    obtain ⟨xs, e, hx⟩ := h.ls
    exact ⟨xs, e, fun j x hj => by rw [ev _ (by unfold iP; omega)]; exact hx j x hj⟩
  · rw [ev 5 (by omega)]; exact h.dr
  · rw [ev _ (by unfold iF; omega)]; exact h.fl j l hl
  · rw [ev _ (by unfold iB; omega)]; exact h.bl j l hl
  · rw [ev _ (by unfold iP; omega)]; exact h.pl j x hx
/-- The cells of the carriers are written: they are another list's. -/
theorem MSt.setCs {cs' : List Car} {xs' : List Value} (h : MSt w B g m S) (hl : cs'.length = m.cs.length) (hx : xs' = vS Car.cells cs') (hsp : SpotsT w' B (putS S 3 { S 3 with xs := xs' })) : MSt w' B g { m with cs := cs' } (putS S 3 { S 3 with xs := xs' }) := by
  subst hx
  have ev : ∀ j, j ≠ 3 → (putS S 3 { S 3 with xs := vS Car.cells cs' }) j = S j := fun j h1 => putS_ne h1
  refine ⟨hsp, ?_, ?_, ?_, ?_, ?_, ?_, fun j l hl => ?_, fun j l hl => ?_, fun j x hx => ?_⟩
  · rw [ev 0 (by omega), ev 1 (by omega), ev 2 (by omega), putS_same, ev 4 (by omega), ev 5 (by omega)]
    exact h.box
  · rw [ev 1 (by omega)]
    obtain ⟨xs, e, hx⟩ := h.fr
    exact ⟨xs, e, fun j hj => by rw [ev _ (by unfold iF; omega)]; exact hx j hj⟩
  · rw [ev 2 (by omega)]
    obtain ⟨xs, e, hx⟩ := h.bk
    exact ⟨xs, e, fun j hj => by rw [ev _ (by unfold iB; omega)]; exact hx j hj⟩
  · rw [putS_same]
    show (⟨(S 3).E, (S 3).sz, (S 3).v, (S 3).n, _⟩ : Spot) = ⟨_, _, (S 3).v, cs'.length, _⟩
    have h1 : (S 3).E = 74 := by rw [h.cs]
    have h2 : (S 3).sz = 2 := by rw [h.cs]
    have h3 : (S 3).n = m.cs.length := by rw [h.cs]
    rw [h1, h2, h3, hl]
  · rw [ev 4 (by omega)]
    obtain ⟨xs, e, hx⟩ := h.ls
    exact ⟨xs, e, fun j x hj => by rw [ev _ (by unfold iP; omega)]; exact hx j x hj⟩
  · rw [ev 5 (by omega)]; exact h.dr
  · rw [ev _ (by unfold iF; omega)]; exact h.fl j l hl
  · rw [ev _ (by unfold iB; omega)]; exact h.bl j l hl
  · rw [ev _ (by unfold iP; omega)]; exact h.pl j x hx
/-- What was dropped is another list. -/
theorem MSt.setDr {v' : Value} {l' : List Int} (h : MSt w B g m S) (hsp : SpotsT w' B (putS S 5 (spI v' l'))) : MSt (w'.setCell ⟨g, 6, none⟩ v') B g { m with dr := l' } (putS (putS S 5 (spI v' l')) 0 { S 0 with xs := (S 0).xs.set 6 v' }) := by
  have e0 : putS S 5 (spI v' l') 0 = S 0 := putS_ne (by omega)
  have hsp2 := hsp.setCell (p := 0) (g := g) (i := 6) (by rw [e0]; exact h.gbox) v' (by rw [e0, h.box]; simp)
  rw [e0] at hsp2
  have ev : ∀ j, j ≠ 0 → j ≠ 5 → (putS (putS S 5 (spI v' l')) 0 { S 0 with xs := (S 0).xs.set 6 v' }) j = S j := fun j h1 h2 => by rw [putS_ne h1, putS_ne h2]
  have e5 : (putS (putS S 5 (spI v' l')) 0 { S 0 with xs := (S 0).xs.set 6 v' }) 5 = spI v' l' := by rw [putS_ne (by omega), putS_same]
  refine ⟨hsp2, ?_, ?_, ?_, ?_, ?_, ?_, fun j l hl => ?_, fun j l hl => ?_, fun j x hx => ?_⟩
  · rw [putS_same, ev 1 (by omega) (by omega), ev 2 (by omega) (by omega), ev 3 (by omega) (by omega), ev 4 (by omega) (by omega), e5, h.box]
    rfl
  · rw [ev 1 (by omega) (by omega)]
    obtain ⟨xs, e, hx⟩ := h.fr
    exact ⟨xs, e, fun j hj => by rw [ev _ (by unfold iF; omega) (by unfold iF; omega)]; exact hx j hj⟩
  · rw [ev 2 (by omega) (by omega)]
    obtain ⟨xs, e, hx⟩ := h.bk
    exact ⟨xs, e, fun j hj => by rw [ev _ (by unfold iB; omega) (by unfold iB; omega)]; exact hx j hj⟩
  · rw [ev 3 (by omega) (by omega)]; exact h.cs
  · rw [ev 4 (by omega) (by omega)]
    obtain ⟨xs, e, hx⟩ := h.ls
    exact ⟨xs, e, fun j x hj => by rw [ev _ (by unfold iP; omega) (by unfold iP; omega)]; exact hx j x hj⟩
  · rw [e5]
  · rw [ev _ (by unfold iF; omega) (by unfold iF; omega)]; exact h.fl j l hl
  · rw [ev _ (by unfold iB; omega) (by unfold iB; omega)]; exact h.bl j l hl
  · rw [ev _ (by unfold iP; omega) (by unfold iP; omega)]; exact h.pl j x hx
/-- A loop more: its parents' row stands already, the row of loops has grown; the box is told. -/
theorem MSt.addL {x : Inf} {vp vl : Value} {xs xs' : List Value} (h : MSt w B g m S) (e4 : S 4 = ⟨76, 6, (S 4).v, m.ls.length, xs⟩) (hxs : xs' = xs ++ [.int .i64 x.k, .int .i64 x.y, .int .i64 x.b, .int .i64 x.p, .int .i64 x.d, vp])
    (hsp : SpotsT w' B (putS (putS S (iP m.ls.length) (spI vp x.ps)) 4 ⟨76, 6, vl, m.ls.length + 1, xs'⟩)) :
    MSt (w'.setCell ⟨g, 5, none⟩ vl) B g { m with ls := m.ls ++ [x] } (putS (putS (putS S (iP m.ls.length) (spI vp x.ps)) 4 ⟨76, 6, vl, m.ls.length + 1, xs'⟩) 0 { S 0 with xs := (S 0).xs.set 5 vl }) := by
  have hp : iP m.ls.length ≠ 0 ∧ iP m.ls.length ≠ 1 ∧ iP m.ls.length ≠ 2 ∧ iP m.ls.length ≠ 3 ∧ iP m.ls.length ≠ 4 ∧ iP m.ls.length ≠ 5 := by unfold iP; omega
  have e0 : (putS (putS S (iP m.ls.length) (spI vp x.ps)) 4 ⟨76, 6, vl, m.ls.length + 1, xs'⟩) 0 = S 0 := by rw [putS_ne (by omega), putS_ne (by omega)]
  have hsp2 := hsp.setCell (p := 0) (g := g) (i := 5) (by rw [e0]; exact h.gbox) vl (by rw [e0, h.box]; simp)
  rw [e0] at hsp2
  generalize hS' : (putS (putS (putS S (iP m.ls.length) (spI vp x.ps)) 4 ⟨76, 6, vl, m.ls.length + 1, xs'⟩) 0 { S 0 with xs := (S 0).xs.set 5 vl }) = S' at hsp2
  have ev : ∀ j, j ≠ 0 → j ≠ 4 → j ≠ iP m.ls.length → S' j = S j := fun j h1 h2 h3 => by rw [← hS', putS_ne h1, putS_ne h2, putS_ne h3]
  have ez : S' 0 = { S 0 with xs := (S 0).xs.set 5 vl } := by rw [← hS', putS_same]
  have e4' : S' 4 = ⟨76, 6, vl, m.ls.length + 1, xs'⟩ := by rw [← hS', putS_ne (by omega), putS_same]
  have ep : S' (iP m.ls.length) = spI vp x.ps := by rw [← hS', putS_ne (by omega), putS_ne (by omega), putS_same]
  have hxl : xs.length = m.ls.length * 6 := by have := (h.owned e4).1; exact this
  refine ⟨hsp2, ?_, ?_, ?_, ?_, ?_, ?_, fun j l hl => ?_, fun j l hl => ?_, fun j y hy => ?_⟩
  · rw [ez, ev 1 (by omega) (by omega) (by omega), ev 2 (by omega) (by omega) (by omega), ev 3 (by omega) (by omega) (by omega), e4', ev 5 (by omega) (by omega) (by omega), h.box]
    rfl
  · rw [ev 1 (by omega) (by omega) (by omega)]
    obtain ⟨ys, e, hx⟩ := h.fr
    exact ⟨ys, e, fun j hj => by rw [ev _ (by unfold iF; omega) (by unfold iF; omega) (by unfold iF iP; omega)]; exact hx j hj⟩
  · rw [ev 2 (by omega) (by omega) (by omega)]
    obtain ⟨ys, e, hx⟩ := h.bk
    exact ⟨ys, e, fun j hj => by rw [ev _ (by unfold iB; omega) (by unfold iB; omega) (by unfold iB iP; omega)]; exact hx j hj⟩
  · rw [ev 3 (by omega) (by omega) (by omega)]; exact h.cs
  · obtain ⟨ys, e, hx⟩ := h.ls
    have hys : ys = xs := by rw [e4] at e; injection e with _ _ _ _ h5; exact h5.symm
    subst hys
    refine ⟨xs', by rw [e4']; simp, fun j y hy i u hu => ?_⟩
    have hi : i < 6 := (List.getElem?_eq_some_iff.1 hu).1
    by_cases hj : j < m.ls.length
    · have hy' : (m.ls ++ [x])[j]? = some y := hy
      rw [List.getElem?_append_left hj] at hy'
      rw [ev _ (by unfold iP; omega) (by unfold iP; omega) (by unfold iP; omega)] at hu
      rw [hxs, List.getElem?_append_left (by omega)]
      exact hx j y hy' i u hu
    · have hj2 : j = m.ls.length := by have := (List.getElem?_eq_some_iff.1 hy).1; simp at this; omega
      subst hj2
      have hy' : (m.ls ++ [x])[m.ls.length]? = some y := hy
      rw [List.getElem?_append_right (Nat.le_refl _), Nat.sub_self] at hy'
      injection hy' with hy'
      subst hy'
      rw [ep] at hu
      rw [hxs, List.getElem?_append_right (by omega), hxl, show m.ls.length * 6 + i - m.ls.length * 6 = i by omega]
      exact hu
  · rw [ev 5 (by omega) (by omega) (by omega)]; exact h.dr
  · rw [ev _ (by unfold iF; omega) (by unfold iF; omega) (by unfold iF iP; omega)]; exact h.fl j l hl
  · rw [ev _ (by unfold iB; omega) (by unfold iB; omega) (by unfold iB iP; omega)]; exact h.bl j l hl
  · by_cases hj : j < m.ls.length
    · have hy' : (m.ls ++ [x])[j]? = some y := hy
      rw [List.getElem?_append_left hj] at hy'
      rw [ev _ (by unfold iP; omega) (by unfold iP; omega) (by unfold iP; omega)]
      exact h.pl j y hy'
    · have hj2 : j = m.ls.length := by have := (List.getElem?_eq_some_iff.1 hy).1; simp at this; omega
      subst hj2
      have hy' : (m.ls ++ [x])[m.ls.length]? = some y := hy
      rw [List.getElem?_append_right (Nat.le_refl _), Nat.sub_self] at hy'
      injection hy' with hy'
      subst hy'
      rw [ep]
end

end Go.Proofs.Ytolcgopfbbmjgaa

/-
  What moves while the rows of one machine are written: only their own blocks, and new ones.
-/
namespace Go.Proofs.Ytolcgopfbbmjgaa
set_option linter.unusedVariables false
set_option linter.unusedSimpArgs false
open Go.RowKit

/-- Only the blocks in T may have changed; new ones may have come. -/
structure OnlyT (T : Nat → Prop) (w w' : World) : Prop where
  os : w'.os = w.os
  tape : w'.tape = w.tape
  output : w'.output = w.output
  size : w.heap.size ≤ w'.heap.size
  block : ∀ k, k < w.heap.size → ¬ T k → w'.heap[k]? = w.heap[k]?
/-- The blocks of rows. -/
def blk (S : Nat → Spot) (k : Nat) : Prop := ∃ j, (S j).v.ownBlock = some k

section
variable {T T' : Nat → Prop} {a b c w w' : World}
theorem OnlyT.refl (T : Nat → Prop) (w : World) : OnlyT T w w := ⟨rfl, rfl, rfl, Nat.le_refl _, fun _ _ _ => rfl⟩
theorem OnlyT.trans (h : OnlyT T a b) (k : OnlyT T b c) : OnlyT T a c :=
  ⟨k.os.trans h.os, k.tape.trans h.tape, k.output.trans h.output, Nat.le_trans h.size k.size, fun i h1 h2 => (k.block i (Nat.lt_of_lt_of_le h1 h.size) h2).trans (h.block i h1 h2)⟩
/-- The second step may write more, if that is new to the first world. -/
theorem OnlyT.trans' (h : OnlyT T a b) (k : OnlyT T' b c) (ht : ∀ i, T' i → T i ∨ a.heap.size ≤ i) : OnlyT T a c :=
  ⟨k.os.trans h.os, k.tape.trans h.tape, k.output.trans h.output, Nat.le_trans h.size k.size, fun i h1 h2 => (k.block i (Nat.lt_of_lt_of_le h1 h.size) (fun e => by
    rcases ht i e with h3 | h3
    · exact h2 h3
    · omega)).trans (h.block i h1 h2)⟩
theorem OnlyT.wide (h : OnlyT T a b) (ht : ∀ i, i < a.heap.size → T i → T' i) : OnlyT T' a b := ⟨h.os, h.tape, h.output, h.size, fun i h1 h2 => h.block i h1 (fun e => h2 (ht i h1 e))⟩
theorem OnlyT.of_below (h : Below a.heap.size a b) : OnlyT T a b := ⟨h.os, h.tape, h.output, h.size, fun k hk _ => h.block k hk⟩
theorem OnlyT.below {B : Nat} (h : OnlyT T a b) (hT : ∀ i, T i → B ≤ i) (hB : B ≤ a.heap.size) : Below B a b := ⟨h.os, h.tape, h.output, h.size, fun k hk => h.block k (by omega) (fun e => by have := hT k e; omega)⟩
theorem OnlyT.alloc (h : OnlyT T a b) (o : Obj) : OnlyT T a (b.alloc o) := h.trans (OnlyT.of_below ((Below.refl _ _).alloc (Nat.le_refl _) o))
theorem OnlyT.drew (h : OnlyT T a b) : OnlyT T a b.drew := ⟨h.os, h.tape, h.output, h.size, h.block⟩
theorem OnlyT.drewN (h : OnlyT T a b) (n : Nat) : OnlyT T a (b.drewN n) := ⟨h.os, h.tape, h.output, h.size, h.block⟩
theorem OnlyT.setCell (h : OnlyT T a b) {p : Addr} (hp : T p.block ∨ a.heap.size ≤ p.block) (u : Value) : OnlyT T a (b.setCell p u) :=
  ⟨h.os, h.tape, h.output, by simpa [World.setCell] using h.size, fun k hk ht => (Below.heap_setCell _ _ _ _ (fun e => by subst e; rcases hp with hp | hp; exact ht hp; omega)).trans (h.block k hk ht)⟩
theorem OnlyT.grown {row : Option Nat} (h : OnlyT T a b) (hg : b.grownBy c row) (hr : ∀ g, row = some g → T g ∨ a.heap.size ≤ g) : OnlyT T a c :=
  ⟨hg.os.trans h.os, hg.tape.trans h.tape, hg.output.trans h.output, Nat.le_trans h.size hg.size, fun k hk ht => (hg.block k (Nat.lt_of_lt_of_le hk h.size) (fun e => by
    rcases hr k e.symm with h3 | h3
    · exact ht h3
    · omega)).trans (h.block k hk ht)⟩
theorem OnlyT.cell (h : OnlyT T a b) {p : Addr} {v : Value} (hp : ¬ T p.block) (hc : a.cell? p = some v) : b.cell? p = some v :=
  (World.cell?_of_block (h.block p.block (block_lt_of_cell hc) hp)).trans hc
theorem OnlyT.cells (h : OnlyT T a b) {g o : Nat} {us : List Value} (hp : ¬ T g) (hc : CellsAt a g o us) : CellsAt b g o us := fun j u hu => h.cell (p := ⟨g, o + j, none⟩) hp (hc j u hu)
theorem OnlyT.frozen (h : OnlyT T a b) {p : Addr} (hb : p.block < a.heap.size) (hp : ¬ T p.block) : b.frozen? p = a.frozen? p := World.frozen?_of_block (h.block p.block hb hp)
/-- A row of the call's own that is none of those stays. -/
theorem OnlyT.own {B e sz n : Nat} {v : Value} {xs : List Value} (h : OnlyT T a b) (ho : a.ownsRow B e sz v n xs) (hd : ∀ g, v.ownBlock = some g → ¬ T g) : b.ownsRow B e sz v n xs := by
  refine ⟨ho.1, ?_⟩
  rcases ho.2 with h2 | ⟨g, cap, cur, hv, hb, hh, h3⟩
  · exact .inl h2
  · subst hv
    exact .inr ⟨g, cap, cur, rfl, hb, (h.block g (Array.getElem?_eq_some_iff.1 hh).1 (hd g rfl)).trans hh, h3⟩
end

/-- The rows' blocks were written, and those that are now the rows' were theirs or are new. -/
structure Mv (w : World) (S : Nat → Spot) (w' : World) (S' : Nat → Spot) : Prop where
  only : OnlyT (blk S) w w'
  new : ∀ k, blk S' k → blk S k ∨ w.heap.size ≤ k
section
variable {S S' S'' : Nat → Spot} {w w' w'' : World}
theorem Mv.refl (w : World) (S : Nat → Spot) : Mv w S w S := ⟨OnlyT.refl _ _, fun k h => .inl h⟩
theorem Mv.trans (h : Mv w S w' S') (k : Mv w' S' w'' S'') : Mv w S w'' S'' :=
  ⟨h.only.trans' k.only h.new, fun i hi => by
    rcases k.new i hi with h1 | h1
    · exact h.new i h1
    · exact .inr (Nat.le_trans h.only.size h1)⟩
theorem Mv.of_below (hb : Below w.heap.size w w') : Mv w S w' S := ⟨OnlyT.of_below hb, fun k h => .inl h⟩
theorem Mv.below_ (h : Mv w S w' S') (hb : Below w'.heap.size w' w'') : Mv w S w'' S' := h.trans (Mv.of_below hb)
theorem Mv.alloc (h : Mv w S w' S') (o : Obj) : Mv w S (w'.alloc o) S' := h.below_ ((Below.refl _ _).alloc (Nat.le_refl _) o)
theorem Mv.drew (h : Mv w S w' S') : Mv w S w'.drew S' := h.below_ (Below.refl _ _).drew
theorem Mv.drewN (h : Mv w S w' S') (n : Nat) : Mv w S (w'.drewN n) S' := h.below_ (below_drewN (Below.refl _ _) n)
theorem Mv.nblk (h : Mv w S w' S') {b : Nat} (hnb : ¬ blk S b) (hb : b < w.heap.size) : ¬ blk S' b := fun e => by
  rcases h.new b e with h1 | h1
  · exact hnb h1
  · omega
theorem Mv.size (h : Mv w S w' S') : w.heap.size ≤ w'.heap.size := h.only.size
theorem blk_put {p : Nat} {s : Spot} {k : Nat} (h : blk (putS S p s) k) : blk S k ∨ s.v.ownBlock = some k := by
  obtain ⟨j, hj⟩ := h
  by_cases e : j = p
  · rw [e, putS_same] at hj; exact .inr hj
  · rw [putS_ne e] at hj; exact .inl ⟨j, hj⟩
/-- One row is given another form: it stands where it stood, or is new. -/
theorem Mv.put (h : Mv w S w' S') (p : Nat) (s : Spot) (hs : ∀ g, s.v.ownBlock = some g → blk S' g ∨ w.heap.size ≤ g) : Mv w S w' (putS S' p s) :=
  ⟨h.only, fun k hk => by
    rcases blk_put hk with h1 | h1
    · exact h.new k h1
    · rcases hs k h1 with h2 | h2
      · exact h.new k h2
      · exact .inr h2⟩
theorem Mv.setCell (h : Mv w S w' S') {p g i : Nat} (hg : (S' p).v.ownBlock = some g) (u : Value) (xs : List Value) : Mv w S (w'.setCell ⟨g, i, none⟩ u) (putS S' p { S' p with xs := xs }) :=
  ⟨h.only.setCell (by exact h.new g ⟨p, hg⟩) u, fun k hk => by
    rcases blk_put hk with h1 | h1
    · exact h.new k h1
    · exact h.new k ⟨p, h1⟩⟩
theorem Mv.app {p : Nat} {s : Spot} (h : Mv w S w' S') (hg : w'.grownBy w'' (S' p).v.ownBlock) (hat : s.v.ownBlock = (S' p).v.ownBlock ∨ s.v.ownBlock = some w'.heap.size) : Mv w S w'' (putS S' p s) := by
  refine ⟨h.only.grown hg fun g hg => h.new g ⟨p, hg⟩, fun k hk => ?_⟩
  rcases blk_put hk with h1 | h1
  · exact h.new k h1
  · rcases hat with h2 | h2
    · exact h.new k ⟨p, by rw [← h2]; exact h1⟩
    · rw [h2] at h1
      injection h1 with h1
      exact .inr (by have := h.only.size; omega)
/-- All is above B. -/
theorem SpotsT.ge {B : Nat} (h : SpotsT w B S) {k : Nat} (hk : blk S k) : B ≤ k ∧ k < w.heap.size := by
  obtain ⟨j, hj⟩ := hk
  exact h.lt hj
theorem Mv.below {B : Nat} (h : Mv w S w' S') (hs : SpotsT w B S) (hB : B ≤ w.heap.size) : Below B w w' := h.only.below (fun i hi => (hs.ge hi).1) hB
end

/-- The needle's row among the rows. -/
def iN (n : Int × Int) : Nat := if n.1 = 2 then iB n.2.toNat else iF n.2.toNat
/-- A needle is given another list. -/
def setL (m : Mc) (n : Int × Int) (l : List Int) : Mc := if n.1 = 2 then { m with bk := m.bk.set n.2.toNat l } else { m with fr := m.fr.set n.2.toNat l }
/-- A needle of a machine. -/
def ndIn (m : Mc) (n : Int × Int) : Prop := (n.1 = 1 ∨ n.1 = 2) ∧ 0 ≤ n.2 ∧ n.2.toNat < m.fr.length ∧ n.2.toNat < m.bk.length
section
variable {S : Nat → Spot} {w w' : World} {B g : Nat} {m : Mc}
theorem MSt.size (h : MSt w B g m S) : g < w.heap.size ∧ B ≤ g := by have := h.sp.lt h.gbox; omega
theorem MSt.not_blk (h : MSt w B g m S) {b : Nat} (hb : b < B) : ¬ blk S b := fun e => by have := h.sp.ge e; omega
end

end Go.Proofs.Ytolcgopfbbmjgaa

/-
  Operations on machines as plain data: the code, and the machine behind an operation.
-/
namespace Go.Proofs.Ytolcgopfbbmjgaa
set_option linter.unusedVariables false
set_option linter.unusedSimpArgs false
open Go.RowKit

abbrev Opr.f (o : Opr) : Int × Int := (o.fb, o.fa)
abbrev Opr.t (o : Opr) : Int × Int := (o.tb, o.ta)
def carAt (m : Mc) (c : Int) : Car := m.cs.getD (c - 1).toNat ⟨false, 0⟩
def setC (m : Mc) (c : Int) (x : Car) : Mc := { m with cs := m.cs.set (c - 1).toNat x }
def plcO (m : Mc) (o : Opr) : Int := plc o.fb o.fa m.rk
/-- The carrier is in, and on the right side. -/
def carOk (m : Mc) (o : Opr) : Bool := (carAt m o.c).i && (!(decide (o.d = 1) && decide (plcO m o < (carAt m o.c).p)) && !(decide (o.d = -1) && decide ((carAt m o.c).p < plcO m o + 1)))
def carTo (m : Mc) (o : Opr) : Mc := setC m o.c ⟨(carAt m o.c).i, if o.d = 1 then plcO m o + 1 else plcO m o⟩
def addLp (m : Mc) (o : Opr) (ps : List Int) : Mc := { m with ls := m.ls ++ [⟨o.k, o.c, o.fb, o.fa, o.d, ps⟩] }
def mvCode (m : Mc) (o : Opr) : Int :=
  if plc o.fb o.fa m.rk ≠ plc o.tb o.ta m.rk then 8 else if (onL m o.f).length = 0 then 7 else if 4 < (onL m o.f).length + (onL m o.t).length then 5 else 0
def mvL (m : Mc) (o : Opr) : List Int := if o.tb = 2 then onL m o.f ++ onL m o.t else onL m o.t ++ onL m o.f
def mvTo (m : Mc) (o : Opr) : Mc := setL (setL m o.t (mvL m o)) o.f []
def fmCode (m : Mc) (o : Opr) : Int :=
  if carOk m o = false then 9 else if 300 ≤ m.ls.length then 5 else if o.k = 1 then 0 else if o.k = 2 then (if 4 ≤ (onL m o.f).length then 5 else 0) else mvCode m o
def fmTo (m : Mc) (o : Opr) : Mc :=
  if o.k = 1 then setL (addLp (carTo m o) o (onL m o.f)) o.f [(m.ls.length : Int)]
  else if o.k = 2 then setL (addLp (carTo m o) o []) o.f (onL m o.f ++ [(m.ls.length : Int)])
  else setL (addLp (mvTo (carTo m o) o) o (onL m o.f)) o.f [(m.ls.length : Int)]
/-- A number is put to its place among rising ones, once. -/
def putI : List Int → Int → List Int
  | [], n => [n]
  | x :: t, n => if n ≤ x then (if n < x then n :: x :: t else x :: t) else x :: putI t n
def putAll (l : List Int) (ns : List Int) : List Int := ns.foldl putI l
def doCode (m : Mc) (o : Opr) : Int :=
  if o.k = 1 ∨ o.k = 2 ∨ o.k = 5 then fmCode m o
  else if o.k = 3 then (if carOk m o = false then 9 else 0)
  else if o.k = 4 then mvCode m o
  else if o.k = 6 then (if (onL m o.f).length = 0 then 7 else 0)
  else if o.k = 7 then 0
  else if (carAt m o.c).i = decide (o.k = 8) then 9 else 0
def doTo (m : Mc) (o : Opr) : Mc :=
  if o.k = 1 ∨ o.k = 2 ∨ o.k = 5 then fmTo m o
  else if o.k = 3 then carTo m o
  else if o.k = 4 then mvTo m o
  else if o.k = 6 then setL { m with dr := putAll m.dr (onL m o.f) } o.f []
  else if o.k = 7 then { m with rk := o.r }
  else setC m o.c (if o.k = 8 then ⟨true, if o.d = -1 then m.wd + 3 else -3⟩ else ⟨false, 0⟩)

/-! ### What a valid operation names -/
theorem ndB_iff {b a : Int} : ndB b a = true ↔ (b = 1 ∨ b = 2) ∧ 0 ≤ a ∧ a ≤ 23 := by
  unfold ndB bedM
  simp only [Bool.and_eq_true, decide_eq_true_eq, inB_iff]
theorem dirM_iff {d : Int} : dirM d = true ↔ d = 1 ∨ d = -1 := by simp [dirM]
/-- What each kind of a valid operation has. -/
theorem okOp_kinds {o : Opr} (h : okOp o = true) :
    ((o.k = 1 ∨ o.k = 2 ∨ o.k = 3) ∧ (o.d = 1 ∨ o.d = -1) ∧ ndB o.fb o.fa = true ∧ 1 ≤ o.c ∧ o.c ≤ 4 ∧ o.tb = 0 ∧ o.ta = 0 ∧ o.r = 0) ∨
    (o.k = 4 ∧ ndB o.fb o.fa = true ∧ ndB o.tb o.ta = true ∧ o.fb ≠ o.tb ∧ o.d = 0 ∧ o.c = 0 ∧ o.r = 0) ∨
    (o.k = 5 ∧ ndB o.fb o.fa = true ∧ ndB o.tb o.ta = true ∧ o.fb ≠ o.tb ∧ (o.d = 1 ∨ o.d = -1) ∧ 1 ≤ o.c ∧ o.c ≤ 4 ∧ o.r = 0) ∨
    (o.k = 6 ∧ ndB o.fb o.fa = true ∧ o.d = 0 ∧ o.tb = 0 ∧ o.ta = 0 ∧ o.c = 0 ∧ o.r = 0) ∨
    (o.k = 7 ∧ -3 ≤ o.r ∧ o.r ≤ 3 ∧ o.d = 0 ∧ o.fb = 0 ∧ o.fa = 0 ∧ o.tb = 0 ∧ o.ta = 0 ∧ o.c = 0) ∨
    (o.k = 8 ∧ (o.d = 1 ∨ o.d = -1) ∧ 1 ≤ o.c ∧ o.c ≤ 4 ∧ o.fb = 0 ∧ o.fa = 0 ∧ o.tb = 0 ∧ o.ta = 0 ∧ o.r = 0) ∨
    (o.k = 9 ∧ 1 ≤ o.c ∧ o.c ≤ 4 ∧ o.d = 0 ∧ o.fb = 0 ∧ o.fa = 0 ∧ o.tb = 0 ∧ o.ta = 0 ∧ o.r = 0) := by
  obtain ⟨k, d, fb, fa, tb, ta, c, r⟩ := o
  unfold okOp at h
  simp only at h ⊢
  split at h
  · rename_i hk
    simp only [Bool.and_eq_true, decide_eq_true_eq, dirM_iff, inB_iff] at h
    obtain ⟨h1, h2, h3, h4, h5⟩ := h
    exact .inl ⟨hk, h1, h2, h3.1, h3.2, h4.1, h4.2, h5⟩
  split at h
  · rename_i hk1 hk
    simp only [Bool.and_eq_true, decide_eq_true_eq] at h
    obtain ⟨⟨h1, h2, h3⟩, h4, h5, h6⟩ := h
    exact .inr (.inl ⟨hk, h1, h2, h3, h4, h5, h6⟩)
  split at h
  · rename_i hk1 hk2 hk
    simp only [Bool.and_eq_true, decide_eq_true_eq, dirM_iff, inB_iff] at h
    obtain ⟨⟨h1, h2, h3⟩, h4, h5, h6⟩ := h
    exact .inr (.inr (.inl ⟨hk, h1, h2, h3, h4, h5.1, h5.2, h6⟩))
  split at h
  · rename_i hk1 hk2 hk3 hk
    simp only [Bool.and_eq_true, decide_eq_true_eq, Opr.mk.injEq] at h
    obtain ⟨h1, h2⟩ := h
    exact .inr (.inr (.inr (.inl ⟨hk, h1, by omega, by omega, by omega, by omega, by omega⟩)))
  split at h
  · rename_i hk1 hk2 hk3 hk4 hk
    simp only [Bool.and_eq_true, decide_eq_true_eq, inB_iff, Opr.mk.injEq] at h
    exact .inr (.inr (.inr (.inr (.inl ⟨hk, by omega, by omega, by omega, by omega, by omega, by omega, by omega, by omega⟩))))
  split at h
  · rename_i hk1 hk2 hk3 hk4 hk5 hk
    simp only [Bool.and_eq_true, decide_eq_true_eq, dirM_iff, inB_iff, Opr.mk.injEq] at h
    obtain ⟨h1, h2, h3⟩ := h
    exact .inr (.inr (.inr (.inr (.inr (.inl ⟨hk, h1, h2.1, h2.2, by omega, by omega, by omega, by omega, by omega⟩)))))
  split at h
  · rename_i hk1 hk2 hk3 hk4 hk5 hk6 hk
    simp only [Bool.and_eq_true, decide_eq_true_eq, inB_iff, Opr.mk.injEq] at h
    exact .inr (.inr (.inr (.inr (.inr (.inr ⟨hk, by omega, by omega, by omega, by omega, by omega, by omega, by omega, by omega⟩)))))
  · simp at h
theorem okOpW_iff {wd : Int} {o : Opr} : okOpW wd o = true ↔ okOp o = true ∧ o.fa < wd ∧ o.ta < wd := by simp [okOpW]

end Go.Proofs.Ytolcgopfbbmjgaa

/-
  WeakLoops, the plain law: the loops of most, in the needles' order and in the loops' order.
-/
namespace Go.Proofs.Ytolcgopfbbmjgaa
set_option linter.unusedVariables false
set_option linter.unusedSimpArgs false
open Go.RowKit

def wkGo (key : Int → Nat) : Nat → List Int → List Int → List Int
  | _, out, [] => out
  | best, out, k :: t => if best < key k then wkGo key (key k) [k] t else if key k = best then wkGo key best (out ++ [k]) t else wkGo key best out t
def mxL (key : Int → Nat) : Nat → List Int → Nat
  | best, [] => best
  | best, k :: t => mxL key (max best (key k)) t
theorem mxL_le (key : Int → Nat) : ∀ (l : List Int) (best : Nat), best ≤ mxL key best l
  | [], best => Nat.le_refl _
  | k :: t, best => by
    have := mxL_le key t (max best (key k))
    rw [mxL]
    omega
theorem wkGo_eq (key : Int → Nat) : ∀ (l : List Int) (best : Nat) (out : List Int), wkGo key best out l = (if mxL key best l = best then out else []) ++ l.filter fun k => key k == mxL key best l
  | [], best, out => by simp [wkGo, mxL]
  | k :: t, best, out => by
    rw [wkGo, mxL]
    by_cases h1 : best < key k
    · rw [if_pos h1, wkGo_eq key t, show max best (key k) = key k by omega]
      have h2 := mxL_le key t (key k)
      rw [if_neg (show ¬ mxL key (key k) t = best by omega), List.filter_cons]
      by_cases h3 : mxL key (key k) t = key k
      · rw [if_pos h3, if_pos (by simp [h3])]
        rfl
      · rw [if_neg h3, if_neg (by simpa using fun e => h3 e.symm)]
    · rw [if_neg h1, show max best (key k) = best by omega]
      have h2 := mxL_le key t best
      by_cases h3 : key k = best
      · rw [if_pos h3, wkGo_eq key t, List.filter_cons, h3]
        by_cases h4 : mxL key best t = best
        · rw [if_pos h4, if_pos h4, h4]
          simp
        · rw [if_neg h4, if_neg h4, if_neg (by simpa using fun e => h4 e.symm)]
      · rw [if_neg h3, wkGo_eq key t, List.filter_cons, if_neg (show ¬ (key k == mxL key best t) = true by rw [beq_iff_eq]; omega)]
theorem mxL_perm (key : Int → Nat) {l l' : List Int} (h : l.Perm l') : ∀ best, mxL key best l = mxL key best l' := by
  induction h with
  | nil => intro b; rfl
  | cons x _ ih => intro b; rw [mxL, mxL]; exact ih _
  | swap x y l => intro b; simp only [mxL]; rw [show max (max b (key y)) (key x) = max (max b (key x)) (key y) by omega]
  | trans _ _ ih1 ih2 => intro b; exact (ih1 b).trans (ih2 b)
theorem wk_sort (key : Int → Nat) {l l' : List Int} (h : l.Perm l') (hs : l'.Pairwise (· < ·)) : (wkGo key 0 [] l).mergeSort (fun x y => decide (x ≤ y)) = wkGo key 0 [] l' := by
  have e1 : wkGo key 0 [] l = l.filter fun k => key k == mxL key 0 l := by rw [wkGo_eq]; split <;> rfl
  have e2 : wkGo key 0 [] l' = l'.filter fun k => key k == mxL key 0 l' := by rw [wkGo_eq]; split <;> rfl
  rw [e1, e2, mxL_perm key h]
  have hp := h.filter fun k => key k == mxL key 0 l'
  have h1 := List.pairwise_mergeSort (le := fun x y : Int => decide (x ≤ y)) (fun a b c h h' => by simp at *; omega) (fun a b => by simp; omega) (l.filter fun k => key k == mxL key 0 l')
  have h2 : (l'.filter fun k => key k == mxL key 0 l').Pairwise (fun a b => (decide (a ≤ b)) = true) := (hs.filter _).imp (fun h => by simp; omega)
  exact List.Perm.eq_of_pairwise (fun a b _ _ h h' => by simp at h h'; omega) h1 h2 ((List.mergeSort_perm _ _).trans hp)

theorem parsB_nodup {n : Int} : ∀ (l pre : List Int), parsB n pre l = true → l.Nodup ∧ ∀ x ∈ l, ¬ x ∈ pre
  | [], pre, h => ⟨List.nodup_nil, fun x hx => by simp at hx⟩
  | y :: t, pre, h => by
    rw [parsB] at h
    simp only [Bool.and_eq_true, Bool.not_eq_true', List.contains_eq_mem, decide_eq_false_iff_not] at h
    obtain ⟨_, h1, h2⟩ := h
    obtain ⟨h3, h4⟩ := parsB_nodup t _ h2
    refine ⟨List.nodup_cons.2 ⟨fun hy => h4 y hy (by simp), h3⟩, fun x hx => ?_⟩
    rcases List.mem_cons.1 hx with rfl | hx
    · exact h1
    · exact fun hp => h4 x hx (by simp [hp])
def plN (m : Mc) (n : Int × Int) : Int := if n.1 = 2 then n.2 + m.rk else n.2
theorem ndX_pl {m : Mc} {x : Int} {n : Int × Int} (h : n ∈ ndX m x) : plN m n = x := by
  unfold ndX at h
  unfold plN
  rcases List.mem_append.1 h with h | h
  · split at h
    · simp at h; subst h; simp
    · simp at h
  · split at h
    · simp at h; subst h; simp
    · simp at h
theorem ndX_nodup (m : Mc) (x : Int) : (ndX m x).Nodup := by
  unfold ndX
  split <;> split <;> simp
theorem ndGo_pl {m : Mc} : ∀ (f : Nat) (x : Int) (n : Int × Int), n ∈ ndGo m f x → x ≤ plN m n
  | 0, x, n, h => by simp [ndGo] at h
  | f + 1, x, n, h => by
    rw [ndGo] at h
    rcases List.mem_append.1 h with h | h
    · rw [ndX_pl h]
      omega
    · have := ndGo_pl f (x + 1) n h
      omega
theorem ndGo_nodup (m : Mc) : ∀ (f : Nat) (x : Int), (ndGo m f x).Nodup
  | 0, x => List.nodup_nil
  | f + 1, x => by
    rw [ndGo]
    refine List.nodup_append.2 ⟨ndX_nodup m x, ndGo_nodup m f (x + 1), fun a ha b hb e => ?_⟩
    subst e
    have h1 := ndX_pl ha
    have h2 := ndGo_pl f (x + 1) a hb
    omega
theorem getD_mem {L : List (List Int)} {k : Nat} {x : Int} (h : x ∈ L.getD k []) : ∃ hk : k < L.length, x ∈ L[k] := by
  by_cases hk : k < L.length
  · refine ⟨hk, ?_⟩
    rw [List.getD_eq_getElem?_getD, List.getElem?_eq_getElem hk] at h
    exact h
  · rw [List.getD_eq_getElem?_getD, List.getElem?_eq_none (by omega)] at h
    simp at h
theorem flat_apart {L : List (List Int)} (h : L.flatten.Nodup) {i j : Nat} {x : Int} (hi : x ∈ L.getD i []) (hj : x ∈ L.getD j []) : i = j := by
  obtain ⟨hi1, hi2⟩ := getD_mem hi
  obtain ⟨hj1, hj2⟩ := getD_mem hj
  have hp := (List.pairwise_flatten.1 h).2
  rw [List.pairwise_iff_getElem] at hp
  rcases Nat.lt_trichotomy i j with hl | hl | hl
  · exact absurd rfl (hp i j hi1 hj1 hl x hi2 x hj2)
  · exact hl
  · exact absurd rfl (hp j i hj1 hi1 hl x hj2 x hi2)
theorem flat_one {L : List (List Int)} (h : L.flatten.Nodup) (i : Nat) : (L.getD i []).Nodup := by
  by_cases hk : i < L.length
  · rw [List.getD_eq_getElem?_getD, List.getElem?_eq_getElem hk]
    exact (List.pairwise_flatten.1 h).1 _ (List.getElem_mem hk)
  · rw [List.getD_eq_getElem?_getD, List.getElem?_eq_none (by omega)]
    exact List.nodup_nil
/-- No loop is twice on the needles. -/
theorem liveL_nodup {m : Mc} (h : okM m = true) : (liveL m).Nodup := by
  unfold okM at h
  simp only [Bool.and_eq_true] at h
  have hn := (parsB_nodup _ _ h.2.2.2.2.2.2).1
  obtain ⟨h1, h23, h4⟩ := List.nodup_append.1 hn
  obtain ⟨h2, h3, h5⟩ := List.nodup_append.1 h23
  unfold liveL
  refine List.pairwise_flatMap.2 ⟨fun n hn => ?_, ?_⟩
  · unfold onL
    split
    · exact flat_one h2 _
    · exact flat_one h1 _
  · refine List.Pairwise.imp_of_mem ?_ (ndGo_nodup m _ _)
    intro a b ha hb hab x hx y hy e
    subst e
    obtain ⟨a1, a2, a3⟩ := ndGo_ok ha
    obtain ⟨b1, b2, b3⟩ := ndGo_ok hb
    have mf : ∀ {L : List (List Int)} {i : Nat}, x ∈ L.getD i [] → x ∈ L.flatten := fun {L i} h => by
      obtain ⟨hk, hm⟩ := getD_mem h
      exact List.mem_flatten.2 ⟨_, List.getElem_mem hk, hm⟩
    unfold onL at hx hy
    by_cases ea : a.1 = 2 <;> by_cases eb : b.1 = 2
    · rw [if_pos ea] at hx
      rw [if_pos eb] at hy
      have := flat_apart h2 hx hy
      exact hab (Prod.ext (by omega) (by omega))
    · rw [if_pos ea] at hx
      rw [if_neg eb] at hy
      exact h4 x (mf hy) x (List.mem_append_left _ (mf hx)) rfl
    · rw [if_neg ea] at hx
      rw [if_pos eb] at hy
      exact h4 x (mf hx) x (List.mem_append_left _ (mf hy)) rfl
    · rw [if_neg ea] at hx
      rw [if_neg eb] at hy
      have := flat_apart h1 hx hy
      exact hab (Prod.ext (by omega) (by omega))

/-- The loops on needles in their own order. -/
def refL (m : Mc) : List Int := ((List.range m.ls.length).map fun i : Nat => (i : Int)).filter (hasB (liveL m))
theorem refL_sorted (m : Mc) : (refL m).Pairwise (· < ·) := by
  unfold refL
  refine List.Pairwise.filter _ ?_
  rw [List.pairwise_map]
  exact List.pairwise_lt_range.imp (fun h => by omega)
theorem refL_perm {m : Mc} (h : okM m = true) : (liveL m).Perm (refL m) := by
  refine (List.perm_ext_iff_of_nodup (liveL_nodup h) ((refL_sorted m).imp (fun h e => by omega))).2 (fun k => ?_)
  unfold refL hasB
  rw [List.mem_filter]
  simp only [List.contains_eq_mem, decide_eq_true_eq]
  refine ⟨fun hk => ⟨?_, hk⟩, fun hk => hk.2⟩
  obtain ⟨h0, h1⟩ := liveL_rng h hk
  exact List.mem_map.2 ⟨k.toNat, by rw [List.mem_range]; omega, by omega⟩
def weakK (m : Mc) (k : Int) : Nat := (runL m k).length
def weakL (m : Mc) : List Int := wkGo (weakK m) 0 [] (refL m)
theorem weakL_len {m : Mc} {n : Nat} (h : m.ls.length ≤ n) : (weakL m).length ≤ n := by
  unfold weakL
  rw [wkGo_eq, show (if mxL (weakK m) 0 (refL m) = 0 then ([] : List Int) else []) = [] by split <;> rfl, List.nil_append]
  refine Nat.le_trans (List.length_filter_le _ _) ?_
  unfold refL
  refine Nat.le_trans (List.length_filter_le _ _) ?_
  simpa using h
theorem weak_sort {m : Mc} (h : okM m = true) : (wkGo (weakK m) 0 [] (liveL m)).mergeSort (fun x y => decide (x ≤ y)) = weakL m := wk_sort _ (refL_perm h) (refL_sorted m)

end Go.Proofs.Ytolcgopfbbmjgaa

/-
  Valid operations keep valid machines valid: plain data.
-/
namespace Go.Proofs.Ytolcgopfbbmjgaa
set_option linter.unusedVariables false
set_option linter.unusedSimpArgs false
open Go.RowKit

theorem parsB_iff {n : Int} : ∀ {l pre : List Int}, parsB n pre l = true ↔ (∀ x ∈ l, 0 ≤ x ∧ x ≤ n - 1) ∧ l.Nodup ∧ ∀ x ∈ l, ¬ x ∈ pre
  | [], pre => by simp [parsB]
  | y :: t, pre => by
    rw [parsB]
    simp only [Bool.and_eq_true, Bool.not_eq_true', List.contains_eq_mem, decide_eq_false_iff_not, parsB_iff (l := t), inB_iff]
    constructor
    · rintro ⟨h1, h2, h3, h4, h5⟩
      refine ⟨fun x hx => ?_, List.nodup_cons.2 ⟨fun hy => h5 y hy (by simp), h4⟩, fun x hx => ?_⟩
      · rcases List.mem_cons.1 hx with rfl | hx
        · exact h1
        · exact h3 x hx
      · rcases List.mem_cons.1 hx with rfl | hx
        · exact h2
        · exact fun hp => h5 x hx (by simp [hp])
    · rintro ⟨h1, h2, h3⟩
      obtain ⟨h4, h5⟩ := List.nodup_cons.1 h2
      refine ⟨h1 y (by simp), h3 y (by simp), fun x hx => h1 x (by simp [hx]), h5, fun x hx hp => ?_⟩
      rcases List.mem_append.1 hp with hp | hp
      · exact h3 x (by simp [hx]) hp
      · simp at hp
        subst hp
        exact h4 hx
theorem infsB_iff {wd : Int} : ∀ {l : List Inf} {i : Int}, infsB wd i l = true ↔ ∀ (j : Nat) (x : Inf), l[j]? = some x → okInf wd (i + (j : Int)) x = true
  | [], i => by simp [infsB]
  | y :: t, i => by
    rw [infsB]
    simp only [Bool.and_eq_true, infsB_iff (l := t)]
    constructor
    · rintro ⟨h1, h2⟩ j x hx
      rcases j with _ | j
      · simp at hx; subst hx; simpa using h1
      · simp at hx
        have := h2 j x hx
        rwa [show i + 1 + (j : Int) = i + ((j + 1 : Nat) : Int) by omega] at this
    · intro h
      refine ⟨by simpa using h 0 y rfl, fun j x hx => ?_⟩
      have := h (j + 1) x (by simpa using hx)
      rwa [show i + ((j + 1 : Nat) : Int) = i + 1 + (j : Int) by omega] at this

def allL (m : Mc) : List Int := m.fr.flatten ++ (m.bk.flatten ++ m.dr)
structure OkP (m : Mc) : Prop where
  wd : 1 ≤ m.wd ∧ m.wd ≤ 24
  rk : -3 ≤ m.rk ∧ m.rk ≤ 3
  fr : (m.fr.length : Int) = m.wd
  bk : (m.bk.length : Int) = m.wd
  cs : m.cs.length = 4
  ls : m.ls.length ≤ 300
  f4 : ∀ x ∈ m.fr, x.length ≤ 4
  b4 : ∀ x ∈ m.bk, x.length ≤ 4
  car : ∀ c ∈ m.cs, carB m.wd c = true
  inf : ∀ (j : Nat) (x : Inf), m.ls[j]? = some x → okInf m.wd (j : Int) x = true
  ris : risB m.dr = true
  nd : (allL m).Nodup
  rng : ∀ x ∈ allL m, 0 ≤ x ∧ x < m.ls.length
theorem okM_iff {m : Mc} : okM m = true ↔ OkP m := by
  constructor
  · intro h
    have hw := ok_wd h
    have hl := ls_len h
    unfold okM at h
    simp only [Bool.and_eq_true] at h
    obtain ⟨h1, h2, h3, h4, h5, h6, h7⟩ := h
    obtain ⟨g1, g2, _⟩ := parsB_iff.1 h7
    have h5' := infsB_iff.1 h5
    refine ⟨⟨hw.1, hw.2.1⟩, ⟨hw.2.2.1, hw.2.2.2.1⟩, hw.2.2.2.2.1, hw.2.2.2.2.2.1, hw.2.2.2.2.2.2, hl, by simpa [lens4] using h2, by simpa [lens4] using h3, by simpa [carsB] using h4, fun j x hx => by simpa using h5' j x hx, h6, g2, fun x hx => ?_⟩
    have := g1 x hx
    omega
  · rintro ⟨h1, h2, h3, h4, h5, h6, h7, h8, h9, h10, h11, h12, h13⟩
    unfold okM headM
    simp only [Bool.and_eq_true, decide_eq_true_eq, inB_iff]
    refine ⟨⟨h1, h2, h3, h4, by omega, by omega⟩, by simpa [lens4] using h7, by simpa [lens4] using h8, by simpa [carsB] using h9, infsB_iff.2 (fun j x hx => by simpa using h10 j x hx), h11, parsB_iff.2 ⟨fun x hx => ?_, h12, by simp⟩⟩
    have := h13 x hx
    omega

/-! ### Lists of needles, as one list -/
theorem flat_set {L : List (List Int)} {k : Nat} (l : List Int) (hk : k < L.length) : (L.set k l).flatten.Perm (l ++ ((L.take k).flatten ++ (L.drop (k + 1)).flatten)) := by
  rw [List.set_eq_take_append_cons_drop, if_pos hk, List.flatten_append, List.flatten_cons]
  rw [← List.append_assoc, ← List.append_assoc]
  exact (List.perm_append_comm).append_right _
theorem flat_get {L : List (List Int)} {k : Nat} (hk : k < L.length) : L.flatten.Perm (L.getD k [] ++ ((L.take k).flatten ++ (L.drop (k + 1)).flatten)) := by
  have h := flat_set (L := L) (L.getD k []) hk
  have e : L.set k (L.getD k []) = L := by
    apply List.ext_getElem?
    intro i
    by_cases hi : i = k
    · subst hi
      rw [List.getElem?_set_self hk, List.getD_eq_getElem?_getD, List.getElem?_eq_getElem hk]
      rfl
    · rw [List.getElem?_set_ne (fun e => hi e.symm)]
  rwa [e] at h
/-- All other loops. -/
def restL (m : Mc) (n : Int × Int) : List Int :=
  if n.1 = 2 then m.fr.flatten ++ (((m.bk.take n.2.toNat).flatten ++ (m.bk.drop (n.2.toNat + 1)).flatten) ++ m.dr)
  else ((m.fr.take n.2.toNat).flatten ++ (m.fr.drop (n.2.toNat + 1)).flatten) ++ (m.bk.flatten ++ m.dr)
theorem all_set {m : Mc} {n : Int × Int} (l : List Int) (h : ndIn m n) : (allL (setL m n l)).Perm (l ++ restL m n) := by
  obtain ⟨h1, h2, h3, h4⟩ := h
  unfold allL setL restL
  by_cases e : n.1 = 2
  · rw [if_pos e, if_pos e]
    show (m.fr.flatten ++ ((m.bk.set n.2.toNat l).flatten ++ m.dr)).Perm _
    have p1 := ((flat_set l h4).append_right m.dr).append_left m.fr.flatten
    refine p1.trans ?_
    rw [List.append_assoc l, ← List.append_assoc m.fr.flatten, ← List.append_assoc l]
    exact List.perm_append_comm.append_right _
  · rw [if_neg e, if_neg e]
    show ((m.fr.set n.2.toNat l).flatten ++ (m.bk.flatten ++ m.dr)).Perm _
    have p1 := (flat_set l h3).append_right (m.bk.flatten ++ m.dr)
    refine p1.trans ?_
    rw [List.append_assoc l]
theorem all_get {m : Mc} {n : Int × Int} (h : ndIn m n) : (allL m).Perm (onL m n ++ restL m n) := by
  obtain ⟨h1, h2, h3, h4⟩ := h
  unfold allL onL restL
  by_cases e : n.1 = 2
  · rw [if_pos e, if_pos e]
    have p1 := ((flat_get h4).append_right m.dr).append_left m.fr.flatten
    refine p1.trans ?_
    rw [List.append_assoc (m.bk.getD _ _), ← List.append_assoc m.fr.flatten, ← List.append_assoc (m.bk.getD _ _)]
    exact List.perm_append_comm.append_right _
  · rw [if_neg e, if_neg e]
    have p1 := (flat_get h3).append_right (m.bk.flatten ++ m.dr)
    refine p1.trans ?_
    rw [List.append_assoc (m.fr.getD _ _)]
theorem OkP.need {m : Mc} (h : OkP m) {n : Int × Int} (hb : n.1 = 1 ∨ n.1 = 2) (h0 : 0 ≤ n.2) (h1 : n.2 < m.wd) : ndIn m n := ⟨hb, h0, by have := h.fr; omega, by have := h.bk; omega⟩
theorem setL_fr (m : Mc) (n : Int × Int) (l : List Int) : (setL m n l).fr.length = m.fr.length ∧ (setL m n l).bk.length = m.bk.length ∧ (setL m n l).wd = m.wd ∧ (setL m n l).rk = m.rk ∧ (setL m n l).cs = m.cs ∧ (setL m n l).ls = m.ls ∧ (setL m n l).dr = m.dr := by
  unfold setL; split <;> simp
theorem ndIn_set {m : Mc} {n k : Int × Int} (l : List Int) (h : ndIn m n) : ndIn (setL m k l) n := by
  have := setL_fr m k l
  obtain ⟨h1, h2, h3, h4⟩ := h
  exact ⟨h1, h2, by omega, by omega⟩
theorem set_mem {L : List (List Int)} {k : Nat} {l x : List Int} (h : x ∈ L.set k l) : x = l ∨ x ∈ L := by
  rcases List.mem_or_eq_of_mem_set h with h | h
  · exact .inr h
  · exact .inl h
/-- A needle's list replaced by one that is made of known loops. -/
theorem OkP.setL {m : Mc} (h : OkP m) (n : Int × Int) (l : List Int) (h4 : l.length ≤ 4) (hn : (allL (setL m n l)).Nodup) (hr : ∀ x ∈ allL (setL m n l), 0 ≤ x ∧ x < m.ls.length) : OkP (setL m n l) := by
  obtain ⟨e1, e2, e3, e4, e5, e6, e7⟩ := setL_fr m n l
  refine ⟨by rw [e3]; exact h.wd, by rw [e4]; exact h.rk, by rw [e1, e3]; exact h.fr, by rw [e2, e3]; exact h.bk, by rw [e5]; exact h.cs, by rw [e6]; exact h.ls, fun x hx => ?_, fun x hx => ?_, by rw [e5, e3]; exact h.car, by rw [e6, e3]; exact h.inf, by rw [e7]; exact h.ris, hn, by rw [e6]; exact hr⟩
  · unfold Go.Proofs.Ytolcgopfbbmjgaa.setL at hx
    split at hx
    · exact h.f4 x hx
    · rcases set_mem hx with rfl | hx
      · exact h4
      · exact h.f4 x hx
  · unfold Go.Proofs.Ytolcgopfbbmjgaa.setL at hx
    split at hx
    · rcases set_mem hx with rfl | hx
      · exact h4
      · exact h.b4 x hx
    · exact h.b4 x hx
theorem OkP.on4 {m : Mc} (h : OkP m) (n : Int × Int) : (onL m n).length ≤ 4 := onL_len (okM_iff.2 h) n
/-- A needle emptied. -/
theorem OkP.empty {m : Mc} (h : OkP m) {n : Int × Int} (hn : ndIn m n) : OkP (Go.Proofs.Ytolcgopfbbmjgaa.setL m n []) := by
  have p1 := all_set [] hn
  have p2 := all_get hn
  have s : (restL m n).Sublist (onL m n ++ restL m n) := List.sublist_append_right _ _
  refine h.setL n [] (by simp) ((p1.nodup_iff).2 ((p2.nodup_iff.1 h.nd).sublist s)) (fun x hx => ?_)
  exact h.rng x (p2.mem_iff.2 (s.subset (p1.mem_iff.1 hx)))
/-- A carrier that stands within the bounds. -/
theorem OkP.setC {m : Mc} (h : OkP m) (c : Int) (x : Car) (hx : carB m.wd x = true) : OkP (setC m c x) := by
  refine ⟨h.wd, h.rk, h.fr, h.bk, by show (m.cs.set _ _).length = 4; rw [List.length_set]; exact h.cs, h.ls, h.f4, h.b4, fun y hy => ?_, h.inf, h.ris, h.nd, h.rng⟩
  rcases List.mem_or_eq_of_mem_set (show y ∈ m.cs.set (c - 1).toNat x from hy) with h1 | h1
  · exact h.car y h1
  · rw [h1]; exact hx
theorem carB_iff {wd : Int} {c : Car} : carB wd c = true ↔ -3 ≤ c.p ∧ c.p ≤ wd + 3 ∧ (c.i = true ∨ c.p = 0) := by
  unfold carB
  simp only [Bool.and_eq_true, inB_iff, Bool.or_eq_true, decide_eq_true_eq, and_assoc]
theorem plc_rng {b a r wd : Int} (h0 : 0 ≤ a) (h1 : a < wd) (h2 : -3 ≤ r) (h3 : r ≤ 3) : -3 ≤ plc b a r ∧ plc b a r < wd + 3 := by unfold plc; split <;> omega
theorem carOk_in {m : Mc} {o : Opr} (h : carOk m o = true) : (carAt m o.c).i = true := by
  unfold carOk at h
  simp only [Bool.and_eq_true] at h
  exact h.1
theorem OkP.carTo {m : Mc} (h : OkP m) {o : Opr} (hc : carOk m o = true) (h0 : 0 ≤ o.fa) (h1 : o.fa < m.wd) : OkP (carTo m o) := by
  have hp := plc_rng (b := o.fb) h0 h1 h.rk.1 h.rk.2
  refine h.setC _ _ (carB_iff.2 ⟨?_, ?_, .inl (carOk_in hc)⟩)
  · show -3 ≤ (if o.d = 1 then plcO m o + 1 else plcO m o); unfold plcO; split <;> omega
  · show (if o.d = 1 then plcO m o + 1 else plcO m o) ≤ m.wd + 3; unfold plcO; split <;> omega
/-- A loop more. -/
theorem okInf_new {m : Mc} {o : Opr} {ps : List Int} (h : OkP m) (hk : o.k = 1 ∨ o.k = 2 ∨ o.k = 5) (hd : o.d = 1 ∨ o.d = -1) (hb : o.fb = 1 ∨ o.fb = 2) (h0 : 0 ≤ o.fa) (h1 : o.fa < m.wd) (hc : 1 ≤ o.c ∧ o.c ≤ 4)
    (hp4 : ps.length ≤ 4) (hpn : ps.Nodup) (hpr : ∀ x ∈ ps, 0 ≤ x ∧ x < m.ls.length) (h2 : o.k = 2 → ps = []) (h5 : o.k = 5 → 0 < ps.length) : okInf m.wd m.ls.length ⟨o.k, o.c, o.fb, o.fa, o.d, ps⟩ = true := by
  unfold okInf kindM headI tailI bedM
  simp only [Bool.and_eq_true, decide_eq_true_eq, inB_iff, dirM_iff, parsB_iff, Bool.or_eq_true, Bool.not_eq_true', beq_eq_false_iff_ne]
  refine ⟨by omega, ⟨hc, hb, ⟨h0, by omega⟩, hd⟩, hp4, ⟨fun x hx => by have := hpr x hx; omega, hpn, by simp⟩, ?_, ?_⟩
  · by_cases e : o.k = 2
    · right; rw [h2 e]; rfl
    · exact .inl e
  · by_cases e : o.k = 5
    · right; exact h5 e
    · exact .inl e
theorem OkP.add_lp {m : Mc} (h : OkP m) {o : Opr} {ps : List Int} (h3 : m.ls.length < 300) (hi : okInf m.wd m.ls.length ⟨o.k, o.c, o.fb, o.fa, o.d, ps⟩ = true) : OkP (addLp m o ps) := by
  refine ⟨h.wd, h.rk, h.fr, h.bk, h.cs, ?_, h.f4, h.b4, h.car, fun j x hx => ?_, h.ris, h.nd, fun x hx => ?_⟩
  · show (m.ls ++ [_]).length ≤ 300
    simp; omega
  · have hx' : (m.ls ++ [(⟨o.k, o.c, o.fb, o.fa, o.d, ps⟩ : Inf)])[j]? = some x := hx
    by_cases hj : j < m.ls.length
    · rw [List.getElem?_append_left hj] at hx'
      exact h.inf j x hx'
    · have hj2 : j = m.ls.length := by have := (List.getElem?_eq_some_iff.1 hx').1; simp at this; omega
      subst hj2
      rw [List.getElem?_append_right (Nat.le_refl _), Nat.sub_self] at hx'
      injection hx' with hx'
      subst hx'
      exact hi
  · have := h.rng x hx
    show 0 ≤ x ∧ x < ((m.ls ++ [_]).length : Nat)
    simp; omega
/-- The number of the new loop alone on a needle, or behind those on it. -/
theorem OkP.addOn {m : Mc} (h : OkP m) {o : Opr} {ps l : List Int} {n : Int × Int} (hn : ndIn m n) (h3 : m.ls.length < 300) (hi : okInf m.wd m.ls.length ⟨o.k, o.c, o.fb, o.fa, o.d, ps⟩ = true) (hl : l = [] ∨ l = onL m n) (h4 : l.length < 4) :
    OkP (Go.Proofs.Ytolcgopfbbmjgaa.setL (addLp m o ps) n (l ++ [(m.ls.length : Int)])) := by
  have ha := h.add_lp h3 hi
  have hn' : ndIn (addLp m o ps) n := hn
  have p1 := all_set (l ++ [(m.ls.length : Int)]) hn'
  have p2 := all_get hn
  have er : restL (addLp m o ps) n = restL m n := rfl
  rw [er] at p1
  have hb := p2.nodup_iff.1 h.nd
  have hlr : (l ++ restL m n).Nodup ∧ ∀ x ∈ l ++ restL m n, 0 ≤ x ∧ x < m.ls.length := by
    have hsub : (l ++ restL m n).Sublist (onL m n ++ restL m n) := by
      rcases hl with rfl | rfl
      · exact List.sublist_append_right _ _
      · exact List.Sublist.refl _
    exact ⟨hb.sublist hsub, fun x hx => h.rng x (p2.mem_iff.2 (hsub.subset hx))⟩
  have p3 : (l ++ [(m.ls.length : Int)] ++ restL m n).Perm ((m.ls.length : Int) :: (l ++ restL m n)) := by
    rw [List.append_assoc]
    exact List.perm_middle
  refine ha.setL n _ (by simp; omega) ((p1.trans p3).nodup_iff.2 (List.nodup_cons.2 ⟨fun hx => ?_, hlr.1⟩)) (fun x hx => ?_)
  · have := hlr.2 _ hx
    omega
  · have hl2 : (addLp m o ps).ls.length = m.ls.length + 1 := by show (m.ls ++ [_]).length = _; simp
    rw [hl2]
    rcases List.mem_cons.1 ((p1.trans p3).mem_iff.1 hx) with rfl | hx
    · omega
    · have := hlr.2 x hx; omega
theorem onL_setL_ne {m : Mc} {n k : Int × Int} (l : List Int) (hn : ndIn m n) (hk : ndIn m k) (hne : n.1 ≠ k.1) : onL (setL m k l) n = onL m n := by
  obtain ⟨h1, h2, h3, h4⟩ := hn
  obtain ⟨k1, k2, k3, k4⟩ := hk
  unfold onL setL
  by_cases e : n.1 = 2 <;> by_cases e2 : k.1 = 2
  · omega
  · rw [if_pos e, if_pos e, if_neg e2]
  · rw [if_neg e, if_neg e, if_pos e2]
  · omega
theorem onL_setL {m : Mc} {n : Int × Int} (l : List Int) (hn : ndIn m n) : onL (setL m n l) n = l := by
  obtain ⟨h1, h2, h3, h4⟩ := hn
  unfold onL setL
  by_cases e : n.1 = 2
  · rw [if_pos e, if_pos e]
    show (m.bk.set _ _).getD _ _ = _
    rw [List.getD_eq_getElem?_getD, List.getElem?_set_self h4]; rfl
  · rw [if_neg e, if_neg e]
    show (m.fr.set _ _).getD _ _ = _
    rw [List.getD_eq_getElem?_getD, List.getElem?_set_self h3]; rfl
theorem mvL_perm (m : Mc) (o : Opr) : (mvL m o).Perm (onL m o.f ++ onL m o.t) := by
  unfold mvL
  split
  · exact List.Perm.refl _
  · exact List.perm_append_comm
theorem mvCode_zero {m : Mc} {o : Opr} (h : mvCode m o = 0) : plc o.fb o.fa m.rk = plc o.tb o.ta m.rk ∧ 0 < (onL m o.f).length ∧ (onL m o.f).length + (onL m o.t).length ≤ 4 := by
  unfold mvCode at h
  split at h
  · omega
  rename_i h1
  split at h
  · omega
  split at h
  · omega
  exact ⟨by simpa using h1, by omega, by omega⟩
theorem OkP.mvTo {m : Mc} (h : OkP m) {o : Opr} (hf : ndIn m o.f) (ht : ndIn m o.t) (hne : o.fb ≠ o.tb) (hc : mvCode m o = 0) : OkP (mvTo m o) := by
  obtain ⟨-, -, h4⟩ := mvCode_zero hc
  have hlen : (mvL m o).length ≤ 4 := by rw [(mvL_perm m o).length_eq, List.length_append]; exact h4
  unfold Go.Proofs.Ytolcgopfbbmjgaa.mvTo
  have hf' : ndIn (Go.Proofs.Ytolcgopfbbmjgaa.setL m o.t (mvL m o)) o.f := ndIn_set _ hf
  -- all loops: first what was on both needles
  have p1 := all_set (m := Go.Proofs.Ytolcgopfbbmjgaa.setL m o.t (mvL m o)) [] hf'
  have p2 := all_get (m := Go.Proofs.Ytolcgopfbbmjgaa.setL m o.t (mvL m o)) hf'
  rw [onL_setL_ne _ hf ht hne] at p2
  have p3 := all_set (mvL m o) ht
  have p4 := all_get ht
  -- [] ++ rest, and onL f ++ rest ~ mvL ++ restL m t ~ (onL f ++ onL t) ++ restL m t ~ onL f ++ all m
  have p5 : (onL m o.f ++ restL (Go.Proofs.Ytolcgopfbbmjgaa.setL m o.t (mvL m o)) o.f).Perm (onL m o.f ++ allL m) := by
    refine (p2.symm.trans p3).trans ?_
    refine ((mvL_perm m o).append_right _).trans ?_
    rw [List.append_assoc]
    exact p4.symm.append_left _
  have p6 := (List.perm_append_left_iff (onL m o.f)).1 p5
  have p7 : (allL (Go.Proofs.Ytolcgopfbbmjgaa.setL (Go.Proofs.Ytolcgopfbbmjgaa.setL m o.t (mvL m o)) o.f [])).Perm (allL m) := p1.trans (by simpa using p6)
  have hn := p7.nodup_iff.2 h.nd
  have hr : ∀ x ∈ allL (Go.Proofs.Ytolcgopfbbmjgaa.setL (Go.Proofs.Ytolcgopfbbmjgaa.setL m o.t (mvL m o)) o.f []), 0 ≤ x ∧ x < m.ls.length := fun x hx => h.rng x (p7.mem_iff.1 hx)
  obtain ⟨e1, e2, e3, e4, e5, e6, e7⟩ := setL_fr m o.t (mvL m o)
  obtain ⟨g1, g2, g3, g4, g5, g6, g7⟩ := setL_fr (Go.Proofs.Ytolcgopfbbmjgaa.setL m o.t (mvL m o)) o.f []
  have hA : ∀ x ∈ (Go.Proofs.Ytolcgopfbbmjgaa.setL m o.t (mvL m o)).fr, x.length ≤ 4 := fun x hx => by
    unfold Go.Proofs.Ytolcgopfbbmjgaa.setL at hx
    split at hx
    · exact h.f4 x hx
    · rcases set_mem hx with rfl | hx
      · exact hlen
      · exact h.f4 x hx
  have hB : ∀ x ∈ (Go.Proofs.Ytolcgopfbbmjgaa.setL m o.t (mvL m o)).bk, x.length ≤ 4 := fun x hx => by
    unfold Go.Proofs.Ytolcgopfbbmjgaa.setL at hx
    split at hx
    · rcases set_mem hx with rfl | hx
      · exact hlen
      · exact h.b4 x hx
    · exact h.b4 x hx
  refine ⟨by rw [g3, e3]; exact h.wd, by rw [g4, e4]; exact h.rk, by rw [g1, e1, g3, e3]; exact h.fr, by rw [g2, e2, g3, e3]; exact h.bk, by rw [g5, e5]; exact h.cs, by rw [g6, e6]; exact h.ls, fun x hx => ?_, fun x hx => ?_, by rw [g5, e5, g3, e3]; exact h.car, by rw [g6, e6, g3, e3]; exact h.inf, by rw [g7, e7]; exact h.ris, hn, by rw [g6, e6]; exact hr⟩
  · generalize Go.Proofs.Ytolcgopfbbmjgaa.setL m o.t (mvL m o) = M at *
    unfold Go.Proofs.Ytolcgopfbbmjgaa.setL at hx
    split at hx
    · exact hA x hx
    · rcases set_mem hx with rfl | hx
      · simp
      · exact hA x hx
  · generalize Go.Proofs.Ytolcgopfbbmjgaa.setL m o.t (mvL m o) = M at *
    unfold Go.Proofs.Ytolcgopfbbmjgaa.setL at hx
    split at hx
    · rcases set_mem hx with rfl | hx
      · simp
      · exact hB x hx
    · exact hB x hx

/-! ### What was dropped -/
theorem risB_iff : ∀ {l : List Int}, risB l = true ↔ l.Pairwise (· < ·)
  | [] => by simp [risB]
  | [a] => by simp [risB]
  | a :: b :: t => by
    rw [risB, Bool.and_eq_true, decide_eq_true_eq, risB_iff (l := b :: t)]
    constructor
    · rintro ⟨h1, h2⟩
      refine List.pairwise_cons.2 ⟨fun x hx => ?_, h2⟩
      rcases List.mem_cons.1 hx with rfl | hx
      · exact h1
      · have := (List.pairwise_cons.1 h2).1 x hx; omega
    · intro h
      exact ⟨(List.pairwise_cons.1 h).1 b (by simp), (List.pairwise_cons.1 h).2⟩
theorem putI_perm {n : Int} : ∀ {l : List Int}, l.Pairwise (· < ·) → ¬ n ∈ l → (putI l n).Perm (n :: l) ∧ (putI l n).Pairwise (· < ·)
  | [], _, _ => by simp [putI]
  | x :: t, h, hn => by
    obtain ⟨h1, h2⟩ := List.pairwise_cons.1 h
    rw [putI]
    by_cases h3 : n ≤ x
    · have h4 : n < x := by
        have : n ≠ x := fun e => hn (by simp [e])
        omega
      rw [if_pos h3, if_pos h4]
      refine ⟨List.Perm.refl _, List.pairwise_cons.2 ⟨fun y hy => ?_, h⟩⟩
      rcases List.mem_cons.1 hy with rfl | hy
      · exact h4
      · have := h1 y hy; omega
    · rw [if_neg h3]
      obtain ⟨p, s⟩ := putI_perm (n := n) (l := t) h2 (fun e => hn (by simp [e]))
      refine ⟨(p.cons x).trans (List.Perm.swap n x t), List.pairwise_cons.2 ⟨fun y hy => ?_, s⟩⟩
      rcases List.mem_cons.1 (p.mem_iff.1 hy) with rfl | hy
      · omega
      · exact h1 y hy
theorem putAll_perm : ∀ {ns l : List Int}, l.Pairwise (· < ·) → (ns ++ l).Nodup → (putAll l ns).Perm (ns ++ l) ∧ (putAll l ns).Pairwise (· < ·)
  | [], l, h, _ => ⟨List.Perm.refl _, h⟩
  | n :: t, l, h, hn => by
    have hn' : ¬ n ∈ l := fun e => (List.nodup_cons.1 hn).1 (by simp [e])
    obtain ⟨p, s⟩ := putI_perm h hn'
    have p1 : (t ++ putI l n).Perm (n :: (t ++ l)) := (p.append_left t).trans List.perm_middle
    obtain ⟨q, r⟩ := putAll_perm (ns := t) (l := putI l n) s (p1.nodup_iff.2 hn)
    exact ⟨q.trans p1, r⟩
theorem OkP.drop {m : Mc} (h : OkP m) {n : Int × Int} (hn : ndIn m n) : OkP (Go.Proofs.Ytolcgopfbbmjgaa.setL { m with dr := putAll m.dr (onL m n) } n []) := by
  have p2 := all_get hn
  have hb := p2.nodup_iff.1 h.nd
  -- the dropped ones are among the rest
  have hsub : (onL m n ++ m.dr).Sublist (onL m n ++ restL m n) := by
    refine (List.Sublist.refl _).append ?_
    unfold restL
    split
    · exact (List.sublist_append_right _ _).trans (List.sublist_append_right _ _)
    · exact (List.sublist_append_right _ _).trans (List.sublist_append_right _ _)
  obtain ⟨q, s⟩ := putAll_perm (risB_iff.1 h.ris) (hb.sublist hsub)
  have hn' : ndIn { m with dr := putAll m.dr (onL m n) } n := hn
  have p1 := all_set [] hn'
  have p3 : (restL { m with dr := putAll m.dr (onL m n) } n).Perm (onL m n ++ restL m n) := by
    refine List.perm_iff_count.2 fun a => ?_
    have hq := List.perm_iff_count.1 q a
    simp only [List.count_append] at hq
    unfold restL
    split
    · show List.count a (m.fr.flatten ++ (_ ++ putAll m.dr (onL m n))) = List.count a (onL m n ++ (m.fr.flatten ++ (_ ++ m.dr)))
      simp only [List.count_append]
      omega
    · show List.count a (_ ++ (m.bk.flatten ++ putAll m.dr (onL m n))) = List.count a (onL m n ++ (_ ++ (m.bk.flatten ++ m.dr)))
      simp only [List.count_append]
      omega
  have p4 := (p1.trans p3).trans p2.symm
  have h1 : OkP { m with dr := putAll m.dr (onL m n) } → OkP (Go.Proofs.Ytolcgopfbbmjgaa.setL { m with dr := putAll m.dr (onL m n) } n []) := fun h1 => h1.empty hn'
  obtain ⟨e1, e2, e3, e4, e5, e6, e7⟩ := setL_fr { m with dr := putAll m.dr (onL m n) } n []
  refine ⟨by rw [e3]; exact h.wd, by rw [e4]; exact h.rk, by rw [e1, e3]; exact h.fr, by rw [e2, e3]; exact h.bk, by rw [e5]; exact h.cs, by rw [e6]; exact h.ls, fun x hx => ?_, fun x hx => ?_, by rw [e5, e3]; exact h.car, by rw [e6, e3]; exact h.inf, by rw [e7]; exact risB_iff.2 s, p4.nodup_iff.2 h.nd, by rw [e6]; exact fun x hx => h.rng x (p4.mem_iff.1 hx)⟩
  · unfold Go.Proofs.Ytolcgopfbbmjgaa.setL at hx
    split at hx
    · exact h.f4 x hx
    · rcases set_mem hx with rfl | hx
      · simp
      · exact h.f4 x hx
  · unfold Go.Proofs.Ytolcgopfbbmjgaa.setL at hx
    split at hx
    · rcases set_mem hx with rfl | hx
      · simp
      · exact h.b4 x hx
    · exact h.b4 x hx

/-! ### All operations -/
theorem onL_nodup {m : Mc} (h : OkP m) {n : Int × Int} (hn : ndIn m n) : (onL m n).Nodup ∧ ∀ x ∈ onL m n, 0 ≤ x ∧ x < m.ls.length := by
  have p := all_get hn
  exact ⟨(p.nodup_iff.1 h.nd).sublist (List.sublist_append_left _ _), fun x hx => h.rng x (p.mem_iff.2 (List.mem_append_left _ hx))⟩
theorem OkP.do_ {m : Mc} {o : Opr} (h : OkP m) (ho : okOpW m.wd o = true) (hc : doCode m o = 0) : OkP (doTo m o) := by
  obtain ⟨h0, hfw, htw⟩ := okOpW_iff.1 ho
  rcases okOp_kinds h0 with ⟨hk, hd, hf, c1, c4, htb, hta, hr⟩ | ⟨hk, hf, ht, hne, hd, hcc, hr⟩ | ⟨hk, hf, ht, hne, hd, c1, c4, hr⟩ | ⟨hk, hf, hd, htb, hta, hcc, hr⟩ | ⟨hk, hr1, hr2, _⟩ | ⟨hk, hd, c1, c4, _⟩ | ⟨hk, c1, c4, _⟩
  · obtain ⟨hb, hf0, hf1⟩ := ndB_iff.1 hf
    have hn : ndIn m o.f := h.need hb hf0 hfw
    by_cases h3 : o.k = 3
    · have e1 : doCode m o = (if carOk m o = false then 9 else 0) := by unfold doCode; rw [if_neg (by omega), if_pos h3]
      have e2 : doTo m o = Go.Proofs.Ytolcgopfbbmjgaa.carTo m o := by unfold doTo; rw [if_neg (by omega), if_pos h3]
      rw [e1] at hc
      rw [e2]
      refine h.carTo ?_ hf0 hfw
      by_cases hco : carOk m o = false
      · rw [if_pos hco] at hc; omega
      · simpa using hco
    have hk' : o.k = 1 ∨ o.k = 2 ∨ o.k = 5 := by omega
    have e1 : doCode m o = fmCode m o := by unfold doCode; rw [if_pos hk']
    have e2 : doTo m o = fmTo m o := by unfold doTo; rw [if_pos hk']
    rw [e1] at hc
    rw [e2]
    unfold fmCode at hc
    by_cases hco : carOk m o = false
    · rw [if_pos hco] at hc; omega
    rw [if_neg hco] at hc
    have hco' : carOk m o = true := by simpa using hco
    have hcar := h.carTo hco' hf0 hfw
    have hnc : ndIn (Go.Proofs.Ytolcgopfbbmjgaa.carTo m o) o.f := hn
    by_cases hl : 300 ≤ m.ls.length
    · rw [if_pos hl] at hc; omega
    rw [if_neg hl] at hc
    obtain ⟨hpn, hpr⟩ := onL_nodup h hn
    unfold fmTo
    by_cases hk1 : o.k = 1
    · rw [if_pos hk1]
      exact hcar.addOn (ps := onL m o.f) (l := []) hnc (by show m.ls.length < 300; omega) (okInf_new hcar hk' hd hb hf0 hfw ⟨c1, c4⟩ (h.on4 _) hpn hpr (fun e => by omega) (fun e => by omega)) (.inl rfl) (by simp)
    · have hk2 : o.k = 2 := by omega
      rw [if_neg hk1, if_pos hk2]
      rw [if_neg hk1, if_pos hk2] at hc
      by_cases h4 : 4 ≤ (onL m o.f).length
      · rw [if_pos h4] at hc; omega
      exact hcar.addOn (ps := []) (l := onL m o.f) hnc (by show m.ls.length < 300; omega) (okInf_new hcar hk' hd hb hf0 hfw ⟨c1, c4⟩ (by simp) List.nodup_nil (by simp) (fun _ => rfl) (fun e => by omega)) (.inr rfl) (by omega)
  · obtain ⟨hb, hf0, hf1⟩ := ndB_iff.1 hf
    obtain ⟨hb2, ht0, ht1⟩ := ndB_iff.1 ht
    have e1 : doCode m o = mvCode m o := by unfold doCode; rw [if_neg (by omega), if_neg (by omega), if_pos hk]
    have e2 : doTo m o = Go.Proofs.Ytolcgopfbbmjgaa.mvTo m o := by unfold doTo; rw [if_neg (by omega), if_neg (by omega), if_pos hk]
    rw [e1] at hc
    rw [e2]
    exact h.mvTo (h.need hb hf0 hfw) (h.need hb2 ht0 htw) hne hc
  · obtain ⟨hb, hf0, hf1⟩ := ndB_iff.1 hf
    obtain ⟨hb2, ht0, ht1⟩ := ndB_iff.1 ht
    have hn : ndIn m o.f := h.need hb hf0 hfw
    have hn2 : ndIn m o.t := h.need hb2 ht0 htw
    have hk' : o.k = 1 ∨ o.k = 2 ∨ o.k = 5 := by omega
    have e1 : doCode m o = fmCode m o := by unfold doCode; rw [if_pos hk']
    have e2 : doTo m o = fmTo m o := by unfold doTo; rw [if_pos hk']
    rw [e1] at hc
    rw [e2]
    unfold fmCode at hc
    by_cases hco : carOk m o = false
    · rw [if_pos hco] at hc; omega
    rw [if_neg hco] at hc
    have hco' : carOk m o = true := by simpa using hco
    have hcar := h.carTo hco' hf0 hfw
    by_cases hl : 300 ≤ m.ls.length
    · rw [if_pos hl] at hc; omega
    rw [if_neg hl, if_neg (by omega), if_neg (by omega)] at hc
    obtain ⟨hpn, hpr⟩ := onL_nodup h hn
    unfold fmTo
    rw [if_neg (by omega), if_neg (by omega)]
    have hmc : mvCode (Go.Proofs.Ytolcgopfbbmjgaa.carTo m o) o = 0 := hc
    have hmv := hcar.mvTo (o := o) hn hn2 hne hmc
    obtain ⟨-, hpos, -⟩ := mvCode_zero hc
    obtain ⟨e3, e4, e5, e6, e7, e8, e9⟩ := setL_fr (Go.Proofs.Ytolcgopfbbmjgaa.carTo m o) o.t (mvL (Go.Proofs.Ytolcgopfbbmjgaa.carTo m o) o)
    obtain ⟨g3, g4, g5, g6, g7, g8, g9⟩ := setL_fr (Go.Proofs.Ytolcgopfbbmjgaa.setL (Go.Proofs.Ytolcgopfbbmjgaa.carTo m o) o.t (mvL (Go.Proofs.Ytolcgopfbbmjgaa.carTo m o) o)) o.f []
    have hls : (Go.Proofs.Ytolcgopfbbmjgaa.mvTo (Go.Proofs.Ytolcgopfbbmjgaa.carTo m o) o).ls = m.ls := by unfold Go.Proofs.Ytolcgopfbbmjgaa.mvTo; rw [g8, e8]; rfl
    have hwd : (Go.Proofs.Ytolcgopfbbmjgaa.mvTo (Go.Proofs.Ytolcgopfbbmjgaa.carTo m o) o).wd = m.wd := by unfold Go.Proofs.Ytolcgopfbbmjgaa.mvTo; rw [g5, e5]; rfl
    have hnm : ndIn (Go.Proofs.Ytolcgopfbbmjgaa.mvTo (Go.Proofs.Ytolcgopfbbmjgaa.carTo m o) o) o.f := ndIn_set _ (ndIn_set _ hn)
    have hi := okInf_new (ps := onL m o.f) hcar hk' hd hb hf0 hfw ⟨c1, c4⟩ (h.on4 _) hpn hpr (fun e => by omega) (fun e => hpos)
    have := hmv.addOn (o := o) (ps := onL m o.f) (l := []) hnm (by rw [hls]; omega) (by rw [hls, hwd]; exact hi) (.inl rfl) (by simp)
    rw [hls] at this
    exact this
  · obtain ⟨hb, hf0, hf1⟩ := ndB_iff.1 hf
    have e2 : doTo m o = Go.Proofs.Ytolcgopfbbmjgaa.setL { m with dr := putAll m.dr (onL m o.f) } o.f [] := by unfold doTo; rw [if_neg (by omega), if_neg (by omega), if_neg (by omega), if_pos hk]
    rw [e2]
    exact h.drop (h.need hb hf0 hfw)
  · have e2 : doTo m o = { m with rk := o.r } := by unfold doTo; rw [if_neg (by omega), if_neg (by omega), if_neg (by omega), if_neg (by omega), if_pos hk]
    rw [e2]
    exact ⟨h.wd, ⟨hr1, hr2⟩, h.fr, h.bk, h.cs, h.ls, h.f4, h.b4, h.car, h.inf, h.ris, h.nd, h.rng⟩
  · have e2 : doTo m o = Go.Proofs.Ytolcgopfbbmjgaa.setC m o.c ⟨true, if o.d = -1 then m.wd + 3 else -3⟩ := by unfold doTo; rw [if_neg (by omega), if_neg (by omega), if_neg (by omega), if_neg (by omega), if_neg (by omega), if_pos hk]
    rw [e2]
    refine h.setC _ _ (carB_iff.2 ⟨?_, ?_, .inl rfl⟩)
    · show -3 ≤ (if o.d = -1 then m.wd + 3 else -3); have := h.wd; split <;> omega
    · show (if o.d = -1 then m.wd + 3 else -3) ≤ m.wd + 3; have := h.wd; split <;> omega
  · have e2 : doTo m o = Go.Proofs.Ytolcgopfbbmjgaa.setC m o.c ⟨false, 0⟩ := by unfold doTo; rw [if_neg (by omega), if_neg (by omega), if_neg (by omega), if_neg (by omega), if_neg (by omega), if_neg (by omega)]
    rw [e2]
    exact h.setC _ _ (carB_iff.2 ⟨by show (-3 : Int) ≤ 0; omega, by show (0 : Int) ≤ m.wd + 3; have := h.wd; omega, .inr rfl⟩)
theorem ok_do {m : Mc} {o : Opr} (h : okM m = true) (ho : okOpW m.wd o = true) (hc : doCode m o = 0) : okM (doTo m o) = true := okM_iff.2 ((okM_iff.1 h).do_ ho hc)

end Go.Proofs.Ytolcgopfbbmjgaa

/-
  A machine of a call's own as it is built: needles more; a needle's list, whichever bed.
-/
namespace Go.Proofs.Ytolcgopfbbmjgaa
set_option linter.unusedVariables false
set_option linter.unusedSimpArgs false
open Go.RowKit

section
variable {w w' w0 : World} {B g : Nat} {m : Mc} {S S0 : Nat → Spot}
/-- A needle more on a bed: its row, the bed's row that has grown; the box is told. -/
theorem MSt.addF {l : List Int} {v vl : Value} {xs xs' : List Value} (h : MSt w B g m S) (e1 : S 1 = ⟨39, 1, (S 1).v, m.fr.length, xs⟩) (hxs : xs' = xs ++ [v])
    (hsp : SpotsT w' B (putS (putS S (iF m.fr.length) (spI v l)) 1 ⟨39, 1, vl, m.fr.length + 1, xs'⟩)) :
    MSt (w'.setCell ⟨g, 2, none⟩ vl) B g { m with fr := m.fr ++ [l] } (putS (putS (putS S (iF m.fr.length) (spI v l)) 1 ⟨39, 1, vl, m.fr.length + 1, xs'⟩) 0 { S 0 with xs := (S 0).xs.set 2 vl }) := by
  have hp : iF m.fr.length ≠ 0 ∧ iF m.fr.length ≠ 1 ∧ iF m.fr.length ≠ 2 ∧ iF m.fr.length ≠ 3 ∧ iF m.fr.length ≠ 4 ∧ iF m.fr.length ≠ 5 := by unfold iF; omega
  have e0 : (putS (putS S (iF m.fr.length) (spI v l)) 1 ⟨39, 1, vl, m.fr.length + 1, xs'⟩) 0 = S 0 := by rw [putS_ne (by omega), putS_ne (by omega)]
  have hsp2 := hsp.setCell (p := 0) (g := g) (i := 2) (by rw [e0]; exact h.gbox) vl (by rw [e0, h.box]; simp)
  rw [e0] at hsp2
  generalize hS' : (putS (putS (putS S (iF m.fr.length) (spI v l)) 1 ⟨39, 1, vl, m.fr.length + 1, xs'⟩) 0 { S 0 with xs := (S 0).xs.set 2 vl }) = S' at hsp2
  have ev : ∀ j, j ≠ 0 → j ≠ 1 → j ≠ iF m.fr.length → S' j = S j := fun j h1 h2 h3 => by rw [← hS', putS_ne h1, putS_ne h2, putS_ne h3]
  have ez : S' 0 = { S 0 with xs := (S 0).xs.set 2 vl } := by rw [← hS', putS_same]
  have e1' : S' 1 = ⟨39, 1, vl, m.fr.length + 1, xs'⟩ := by rw [← hS', putS_ne (by omega), putS_same]
  have ep : S' (iF m.fr.length) = spI v l := by rw [← hS', putS_ne (by omega), putS_ne (by omega), putS_same]
  have hxl : xs.length = m.fr.length * 1 := by have := (h.owned e1).1; exact this
  have evo : S' 2 = S 2 := ev 2 (by omega) (by omega) (by unfold iF; omega)
  have evs : ∀ j, 3 ≤ j → j ≤ 5 → S' j = S j := fun j h1 h2 => ev j (by omega) (by omega) (by unfold iF; omega)
  have evO : ∀ k, S' (iB k) = S (iB k) := fun k => ev _ (by unfold iB; omega) (by unfold iB; omega) (by unfold iB iF; omega)
  have evP : ∀ k, S' (iP k) = S (iP k) := fun k => ev _ (by unfold iP; omega) (by unfold iP; omega) (by unfold iP iF; omega)
  have evI : ∀ k, k < m.fr.length → S' (iF k) = S (iF k) := fun k hk => ev _ (by unfold iF; omega) (by unfold iF; omega) (by unfold iF; omega)
  have hbox : S' 0 = ⟨41, 7, .slice (some ⟨g, 0, none⟩) 1 1, 1, [.int .i64 m.wd, .int .i64 m.rk, (S' 1).v, (S' 2).v, (S' 3).v, (S' 4).v, (S' 5).v]⟩ := by
    rw [ez, evs 3 (by omega) (by omega), evs 4 (by omega) (by omega), evs 5 (by omega) (by omega), e1', evo, h.box]
    rfl
  have hnew : ∃ ys, S' 1 = ⟨39, 1, (S' 1).v, (m.fr ++ [l]).length, ys⟩ ∧ ∀ k, k < (m.fr ++ [l]).length → ys[k]? = some (S' (iF k)).v := by
    obtain ⟨ys, e, hx⟩ := h.fr
    have hys : ys = xs := by rw [e1] at e; injection e with _ _ _ _ h5; exact h5.symm
    subst hys
    refine ⟨xs', by rw [e1']; simp, fun k hk => ?_⟩
    simp at hk
    by_cases hk1 : k < m.fr.length
    · rw [evI k hk1, hxs, List.getElem?_append_left (by omega)]
      exact hx k hk1
    · have hk2 : k = m.fr.length := by omega
      subst hk2
      rw [ep, hxs, List.getElem?_append_right (by omega), show m.fr.length - ys.length = 0 by omega]
      rfl
  have hlist : ∀ k x, (m.fr ++ [l])[k]? = some x → S' (iF k) = spI (S' (iF k)).v x := fun k x hx => by
    by_cases hk1 : k < m.fr.length
    · rw [List.getElem?_append_left hk1] at hx
      rw [evI k hk1]
      exact h.fl k x hx
    · have hk2 : k = m.fr.length := by have := (List.getElem?_eq_some_iff.1 hx).1; simp at this; omega
      subst hk2
      rw [List.getElem?_append_right (Nat.le_refl _), Nat.sub_self] at hx
      injection hx with hx
      subst hx
      rw [ep]
  have hoth : ∃ ys, S' 2 = ⟨39, 1, (S' 2).v, m.bk.length, ys⟩ ∧ ∀ k, k < m.bk.length → ys[k]? = some (S' (iB k)).v := by
    rw [evo]
    obtain ⟨ys, e, hx⟩ := h.bk
    exact ⟨ys, e, fun k hk => by rw [evO]; exact hx k hk⟩
  have hol : ∀ k x, m.bk[k]? = some x → S' (iB k) = spI (S' (iB k)).v x := fun k x hx => by rw [evO]; exact h.bl k x hx
  refine ⟨hsp2, hbox, hnew, hoth, ?_, ?_, ?_, hlist, hol, fun k x hx => by rw [evP]; exact h.pl k x hx⟩
  · rw [evs 3 (by omega) (by omega)]; exact h.cs
  · rw [evs 4 (by omega) (by omega)]
    obtain ⟨ys, e, hx⟩ := h.ls
    exact ⟨ys, e, fun k x hk => by rw [evP]; exact hx k x hk⟩
  · rw [evs 5 (by omega) (by omega)]; exact h.dr
/-- A needle more on a bed: its row, the bed's row that has grown; the box is told. -/
theorem MSt.addB {l : List Int} {v vl : Value} {xs xs' : List Value} (h : MSt w B g m S) (e1 : S 2 = ⟨39, 1, (S 2).v, m.bk.length, xs⟩) (hxs : xs' = xs ++ [v])
    (hsp : SpotsT w' B (putS (putS S (iB m.bk.length) (spI v l)) 2 ⟨39, 1, vl, m.bk.length + 1, xs'⟩)) :
    MSt (w'.setCell ⟨g, 3, none⟩ vl) B g { m with bk := m.bk ++ [l] } (putS (putS (putS S (iB m.bk.length) (spI v l)) 2 ⟨39, 1, vl, m.bk.length + 1, xs'⟩) 0 { S 0 with xs := (S 0).xs.set 3 vl }) := by
  have hp : iB m.bk.length ≠ 0 ∧ iB m.bk.length ≠ 1 ∧ iB m.bk.length ≠ 2 ∧ iB m.bk.length ≠ 3 ∧ iB m.bk.length ≠ 4 ∧ iB m.bk.length ≠ 5 := by unfold iB; omega
  have e0 : (putS (putS S (iB m.bk.length) (spI v l)) 2 ⟨39, 1, vl, m.bk.length + 1, xs'⟩) 0 = S 0 := by rw [putS_ne (by omega), putS_ne (by omega)]
  have hsp2 := hsp.setCell (p := 0) (g := g) (i := 3) (by rw [e0]; exact h.gbox) vl (by rw [e0, h.box]; simp)
  rw [e0] at hsp2
  generalize hS' : (putS (putS (putS S (iB m.bk.length) (spI v l)) 2 ⟨39, 1, vl, m.bk.length + 1, xs'⟩) 0 { S 0 with xs := (S 0).xs.set 3 vl }) = S' at hsp2
  have ev : ∀ j, j ≠ 0 → j ≠ 2 → j ≠ iB m.bk.length → S' j = S j := fun j h1 h2 h3 => by rw [← hS', putS_ne h1, putS_ne h2, putS_ne h3]
  have ez : S' 0 = { S 0 with xs := (S 0).xs.set 3 vl } := by rw [← hS', putS_same]
  have e1' : S' 2 = ⟨39, 1, vl, m.bk.length + 1, xs'⟩ := by rw [← hS', putS_ne (by omega), putS_same]
  have ep : S' (iB m.bk.length) = spI v l := by rw [← hS', putS_ne (by omega), putS_ne (by omega), putS_same]
  have hxl : xs.length = m.bk.length * 1 := by have := (h.owned e1).1; exact this
  have evo : S' 1 = S 1 := ev 1 (by omega) (by omega) (by unfold iB; omega)
  have evs : ∀ j, 3 ≤ j → j ≤ 5 → S' j = S j := fun j h1 h2 => ev j (by omega) (by omega) (by unfold iB; omega)
  have evO : ∀ k, S' (iF k) = S (iF k) := fun k => ev _ (by unfold iF; omega) (by unfold iF; omega) (by unfold iF iB; omega)
  have evP : ∀ k, S' (iP k) = S (iP k) := fun k => ev _ (by unfold iP; omega) (by unfold iP; omega) (by unfold iP iB; omega)
  have evI : ∀ k, k < m.bk.length → S' (iB k) = S (iB k) := fun k hk => ev _ (by unfold iB; omega) (by unfold iB; omega) (by unfold iB; omega)
  have hbox : S' 0 = ⟨41, 7, .slice (some ⟨g, 0, none⟩) 1 1, 1, [.int .i64 m.wd, .int .i64 m.rk, (S' 1).v, (S' 2).v, (S' 3).v, (S' 4).v, (S' 5).v]⟩ := by
    rw [ez, evs 3 (by omega) (by omega), evs 4 (by omega) (by omega), evs 5 (by omega) (by omega), e1', evo, h.box]
    rfl
  have hnew : ∃ ys, S' 2 = ⟨39, 1, (S' 2).v, (m.bk ++ [l]).length, ys⟩ ∧ ∀ k, k < (m.bk ++ [l]).length → ys[k]? = some (S' (iB k)).v := by
    obtain ⟨ys, e, hx⟩ := h.bk
    have hys : ys = xs := by rw [e1] at e; injection e with _ _ _ _ h5; exact h5.symm
    subst hys
    refine ⟨xs', by rw [e1']; simp, fun k hk => ?_⟩
    simp at hk
    by_cases hk1 : k < m.bk.length
    · rw [evI k hk1, hxs, List.getElem?_append_left (by omega)]
      exact hx k hk1
    · have hk2 : k = m.bk.length := by omega
      subst hk2
      rw [ep, hxs, List.getElem?_append_right (by omega), show m.bk.length - ys.length = 0 by omega]
      rfl
  have hlist : ∀ k x, (m.bk ++ [l])[k]? = some x → S' (iB k) = spI (S' (iB k)).v x := fun k x hx => by
    by_cases hk1 : k < m.bk.length
    · rw [List.getElem?_append_left hk1] at hx
      rw [evI k hk1]
      exact h.bl k x hx
    · have hk2 : k = m.bk.length := by have := (List.getElem?_eq_some_iff.1 hx).1; simp at this; omega
      subst hk2
      rw [List.getElem?_append_right (Nat.le_refl _), Nat.sub_self] at hx
      injection hx with hx
      subst hx
      rw [ep]
  have hoth : ∃ ys, S' 1 = ⟨39, 1, (S' 1).v, m.fr.length, ys⟩ ∧ ∀ k, k < m.fr.length → ys[k]? = some (S' (iF k)).v := by
    rw [evo]
    obtain ⟨ys, e, hx⟩ := h.fr
    exact ⟨ys, e, fun k hk => by rw [evO]; exact hx k hk⟩
  have hol : ∀ k x, m.fr[k]? = some x → S' (iF k) = spI (S' (iF k)).v x := fun k x hx => by rw [evO]; exact h.fl k x hx
  refine ⟨hsp2, hbox, hoth, hnew, ?_, ?_, ?_, hol, hlist, fun k x hx => by rw [evP]; exact h.pl k x hx⟩
  · rw [evs 3 (by omega) (by omega)]; exact h.cs
  · rw [evs 4 (by omega) (by omega)]
    obtain ⟨ys, e, hx⟩ := h.ls
    exact ⟨ys, e, fun k x hk => by rw [evP]; exact hx k x hk⟩
  · rw [evs 5 (by omega) (by omega)]; exact h.dr

/-- A fresh row may stand for any of the rows. -/
theorem SpotsT.putX (h : SpotsT w B S) (p : Nat) {v : Value} {l : List Int} (hown : w.ownsRow B 2 1 v l.length (vI l)) (hnew : ∀ k, v.ownBlock = some k → ¬ blk S k) : SpotsT w B (putS S p (spI v l)) :=
  h.put p _ hown fun k hk => .inr fun j _ hj => hnew k hk ⟨j, hj⟩
/-- The header of a bed. -/
def bedV (S : Nat → Spot) (b : Int) : Value := if b = 2 then (S 2).v else (S 1).v
/-- A needle's header stands in its bed's row, and may be written. -/
theorem MSt.nd (h : MSt w B g m S) {n : Int × Int} (hn : ndIn m n) : ∃ b c L, bedV S n.1 = .slice (some ⟨b, 0, none⟩) L c ∧ n.2 < (L : Int) ∧ blk S b ∧ b < w.heap.size ∧ B ≤ b ∧ w.cell? ⟨b, n.2.toNat, none⟩ = some (S (iN n)).v ∧ (∀ o, w.frozen? ⟨b, o, none⟩ = false) ∧ S (iN n) = spI (S (iN n)).v (onL m n) ∧
    ∀ (w' : World) (l' : List Int) (v' : Value), SpotsT w' B (putS S (iN n) (spI v' l')) → ∃ S', MSt (w'.setCell ⟨b, n.2.toNat, none⟩ v') B g (setL m n l') S' ∧ ∀ w0 S0, Mv w0 S0 w' (putS S (iN n) (spI v' l')) → Mv w0 S0 (w'.setCell ⟨b, n.2.toNat, none⟩ v') S' := by
  obtain ⟨h1, h2, h3, h4⟩ := hn
  by_cases e : n.1 = 2
  · obtain ⟨b, c, hv, hB, hb, hc, ho⟩ := h.gB (by omega)
    obtain ⟨g1, g2, g3⟩ := h.listB h4 ho
    have ei : iN n = iB n.2.toNat := by unfold iN; rw [if_pos e]
    have eo : onL m n = m.bk[n.2.toNat] := by unfold onL; rw [if_pos e, List.getD_eq_getElem?_getD, List.getElem?_eq_getElem h4]; rfl
    refine ⟨b, c, m.bk.length, by unfold bedV; rw [if_pos e]; exact hv, by omega, ⟨2, ho⟩, hb, hB, by rw [ei]; exact g1, g2, by rw [ei, eo]; exact g3, fun w' l' v' hsp => ?_⟩
    rw [ei] at hsp
    refine ⟨_, by unfold setL; rw [if_pos e]; exact h.setB h4 ho hsp, fun w0 S0 hm => ?_⟩
    rw [ei] at hm
    have e2 : putS S (iB n.2.toNat) (spI v' l') 2 = S 2 := putS_ne (fun e => by unfold iB at e; omega)
    have := hm.setCell (p := 2) (g := b) (i := n.2.toNat) (by rw [e2]; exact ho) v' ((S 2).xs.set n.2.toNat v')
    rw [e2] at this
    exact this
  · obtain ⟨b, c, hv, hB, hb, hc, ho⟩ := h.gF (by omega)
    obtain ⟨g1, g2, g3⟩ := h.listF h3 ho
    have ei : iN n = iF n.2.toNat := by unfold iN; rw [if_neg e]
    have eo : onL m n = m.fr[n.2.toNat] := by unfold onL; rw [if_neg e, List.getD_eq_getElem?_getD, List.getElem?_eq_getElem h3]; rfl
    refine ⟨b, c, m.fr.length, by unfold bedV; rw [if_neg e]; exact hv, by omega, ⟨1, ho⟩, hb, hB, by rw [ei]; exact g1, g2, by rw [ei, eo]; exact g3, fun w' l' v' hsp => ?_⟩
    rw [ei] at hsp
    refine ⟨_, by unfold setL; rw [if_neg e]; exact h.setF h3 ho hsp, fun w0 S0 hm => ?_⟩
    rw [ei] at hm
    have e2 : putS S (iF n.2.toNat) (spI v' l') 1 = S 1 := putS_ne (fun e => by unfold iF at e; omega)
    have := hm.setCell (p := 1) (g := b) (i := n.2.toNat) (by rw [e2]; exact ho) v' ((S 1).xs.set n.2.toNat v')
    rw [e2] at this
    exact this
end

end Go.Proofs.Ytolcgopfbbmjgaa

/-
  Transfers that name different needles commute (plain): a part of a program may be ordered anew.
-/
namespace Go.Proofs.Ytolcgopfbbmjgaa
set_option linter.unusedVariables false
set_option linter.unusedSimpArgs false

/-- A needle of some machine. -/
def NdG (n : Int × Int) : Prop := (n.1 = 1 ∨ n.1 = 2) ∧ 0 ≤ n.2
theorem nd_ne {n n' : Int × Int} (h : NdG n) (h' : NdG n') (hne : n ≠ n') (hb : (n.1 = 2 ↔ n'.1 = 2)) : n.2.toNat ≠ n'.2.toNat := by
  intro e
  apply hne
  obtain ⟨a, b⟩ := n
  obtain ⟨c, d⟩ := n'
  obtain ⟨h1, h2⟩ := h
  obtain ⟨h3, h4⟩ := h'
  simp only at *
  have : b = d := by omega
  subst this
  have : a = c := by omega
  subst this
  rfl
theorem getD_set_ne {α : Type} {l : List α} {i j : Nat} {x d : α} (h : i ≠ j) : (l.set i x).getD j d = l.getD j d := by
  rw [List.getD_eq_getElem?_getD, List.getD_eq_getElem?_getD, List.getElem?_set_ne h]
theorem onL_far {m : Mc} {n n' : Int × Int} {l : List Int} (h : NdG n) (h' : NdG n') (hne : n ≠ n') : onL (setL m n l) n' = onL m n' := by
  unfold onL setL
  by_cases h1 : n.1 = 2 <;> by_cases h2 : n'.1 = 2
  · rw [if_pos h1, if_pos h2, if_pos h2]
    exact getD_set_ne (nd_ne h h' hne (by omega))
  · rw [if_pos h1, if_neg h2, if_neg h2]
  · rw [if_neg h1, if_pos h2, if_pos h2]
  · rw [if_neg h1, if_neg h2, if_neg h2]
    exact getD_set_ne (nd_ne h h' hne (by omega))
theorem setL_comm {m : Mc} {n n' : Int × Int} {a b : List Int} (h : NdG n) (h' : NdG n') (hne : n ≠ n') : setL (setL m n a) n' b = setL (setL m n' b) n a := by
  unfold setL
  by_cases h1 : n.1 = 2 <;> by_cases h2 : n'.1 = 2
  · rw [if_pos h1, if_pos h2, if_pos h2, if_pos h1]
    simp only [List.set_comm _ _ (nd_ne h h' hne (by omega))]
  · rw [if_pos h1, if_neg h2, if_neg h2, if_pos h1]
  · rw [if_neg h1, if_pos h2, if_pos h2, if_neg h1]
  · rw [if_neg h1, if_neg h2, if_neg h2, if_neg h1]
    simp only [List.set_comm _ _ (nd_ne h h' hne (by omega))]
theorem setL_rk4 (m : Mc) (n : Int × Int) (l : List Int) : (setL m n l).rk = m.rk := by unfold setL; split <;> rfl
/-- A transfer between needles. -/
structure Tf (o : Opr) : Prop where
  k : o.k = 4
  f : NdG o.f
  t : NdG o.t
/-- Two operations that name different needles. -/
def SepO (a b : Opr) : Prop := a.f ≠ b.f ∧ a.f ≠ b.t ∧ a.t ≠ b.f ∧ a.t ≠ b.t
theorem SepO.symm {a b : Opr} (h : SepO a b) : SepO b a := ⟨fun e => h.1 e.symm, fun e => h.2.2.1 e.symm, fun e => h.2.1 e.symm, fun e => h.2.2.2 e.symm⟩
theorem onL_mv {m : Mc} {a b : Opr} (ha : Tf a) (hb : Tf b) (h : SepO a b) : onL (mvTo m a) b.f = onL m b.f ∧ onL (mvTo m a) b.t = onL m b.t := by
  unfold mvTo
  rw [onL_far ha.f hb.f h.1, onL_far ha.t hb.f h.2.2.1, onL_far ha.f hb.t h.2.1, onL_far ha.t hb.t h.2.2.2]
  exact ⟨rfl, rfl⟩
theorem mvTo_rk (m : Mc) (a : Opr) : (mvTo m a).rk = m.rk := by unfold mvTo; rw [setL_rk4, setL_rk4]
theorem mvCode_sep {m : Mc} {a b : Opr} (ha : Tf a) (hb : Tf b) (h : SepO a b) : mvCode (mvTo m a) b = mvCode m b := by
  obtain ⟨h1, h2⟩ := onL_mv (m := m) ha hb h
  unfold mvCode
  rw [h1, h2, mvTo_rk]
theorem mvTo_comm {m : Mc} {a b : Opr} (ha : Tf a) (hb : Tf b) (h : SepO a b) : mvTo (mvTo m a) b = mvTo (mvTo m b) a := by
  have e1 : mvL (mvTo m a) b = mvL m b := by
    obtain ⟨h1, h2⟩ := onL_mv (m := m) ha hb h
    unfold mvL
    rw [h1, h2]
  have e2 : mvL (mvTo m b) a = mvL m a := by
    obtain ⟨h1, h2⟩ := onL_mv (m := m) hb ha h.symm
    unfold mvL
    rw [h1, h2]
  have u1 : mvTo (mvTo m a) b = setL (setL (mvTo m a) b.t (mvL m b)) b.f [] := by rw [← e1]; rfl
  have u2 : mvTo (mvTo m b) a = setL (setL (mvTo m b) a.t (mvL m a)) a.f [] := by rw [← e2]; rfl
  rw [u1, u2]
  unfold mvTo
  rw [setL_comm ha.f hb.t h.2.1, setL_comm ha.t hb.t h.2.2.2, setL_comm ha.f hb.f h.1, setL_comm ha.t hb.f h.2.2.1]
theorem do_tf {m : Mc} {o : Opr} (h : Tf o) : doCode m o = mvCode m o ∧ doTo m o = mvTo m o := by
  have hk := h.k
  unfold doCode doTo
  rw [if_neg (by omega), if_neg (by omega), if_pos hk, if_neg (by omega), if_neg (by omega), if_pos hk]
  exact ⟨rfl, rfl⟩
/-- Operations one after another; nothing if one cannot be done. -/
def runM : Mc → List Opr → Option Mc
  | m, [] => some m
  | m, o :: t => if doCode m o = 0 then runM (doTo m o) t else none
theorem runM_app : ∀ (a b : List Opr) (m : Mc), runM m (a ++ b) = (runM m a).bind (fun m' => runM m' b)
  | [], b, m => rfl
  | o :: a, b, m => by
    rw [List.cons_append, runM, runM]
    split
    · exact runM_app a b _
    · rfl
theorem run_two {m : Mc} {a b : Opr} (ha : Tf a) (hb : Tf b) (h : SepO a b) (t : List Opr) : runM m (a :: b :: t) = runM m (b :: a :: t) := by
  rw [runM, runM, runM, runM, (do_tf ha).1, (do_tf ha).2, (do_tf hb).1, (do_tf hb).2, (do_tf ha).1, (do_tf ha).2, (do_tf hb).1, (do_tf hb).2, mvCode_sep ha hb h, mvCode_sep hb ha h.symm, mvTo_comm ha hb h]
  by_cases h1 : mvCode m a = 0 <;> by_cases h2 : mvCode m b = 0 <;> simp [h1, h2]
/-- Transfers that name different needles, in any order. -/
theorem run_perm {a b : List Opr} (h : a.Perm b) : ∀ (m : Mc), (∀ o ∈ a, Tf o) → a.Pairwise SepO → runM m a = runM m b := by
  induction h with
  | nil => intro m _ _; rfl
  | @cons x l1 l2 hp ih =>
    intro m ht hs
    rw [runM, runM]
    split
    · exact ih _ (fun o ho => ht o (List.mem_cons_of_mem _ ho)) (List.pairwise_cons.1 hs).2
    · rfl
  | swap x y l =>
    intro m ht hs
    exact run_two (ht y (by simp)) (ht x (by simp)) ((List.pairwise_cons.1 hs).1 x (by simp)) l
  | @trans l1 l2 l3 h1 h2 ih1 ih2 =>
    intro m ht hs
    rw [ih1 m ht hs]
    exact ih2 m (fun o ho => ht o (h1.mem_iff.2 ho)) ((h1.pairwise_iff SepO.symm).1 hs)
theorem run_part {pre a b post : List Opr} (h : a.Perm b) (ht : ∀ o ∈ a, Tf o) (hs : a.Pairwise SepO) (m : Mc) : runM m (pre ++ (a ++ post)) = runM m (pre ++ (b ++ post)) := by
  rw [runM_app, runM_app]
  congr 1
  funext m'
  rw [runM_app, runM_app, run_perm h m' ht hs]

end Go.Proofs.Ytolcgopfbbmjgaa

/-
  Taking back the last loop, in plain Lean: the code, the machine behind it, and that it is valid.
-/
namespace Go.Proofs.Ytolcgopfbbmjgaa
set_option linter.unusedVariables false
set_option linter.unusedSimpArgs false
open Go.RowKit

abbrev Inf.n (x : Inf) : Int × Int := (x.b, x.p)
/-- The needle that faces another one. -/
def fcN (m : Mc) (n : Int × Int) : Int × Int := if n.1 = 2 then (1, n.2 + m.rk) else (2, n.2 - m.rk)
def fcIn (m : Mc) (n : Int × Int) : Bool := inB 0 (fcN m n).2 (m.wd - 1)
/-- What a split has put to the needle that faces its own; what else lies there. -/
def ukPut (m : Mc) (n : Int × Int) (ps : List Int) : List Int := if (fcN m n).1 = 2 then (onL m (fcN m n)).take ps.length else (onL m (fcN m n)).drop ((onL m (fcN m n)).length - ps.length)
def ukRest (m : Mc) (n : Int × Int) (ps : List Int) : List Int := if (fcN m n).1 = 2 then (onL m (fcN m n)).drop ps.length else (onL m (fcN m n)).take ((onL m (fcN m n)).length - ps.length)
def holdB (m : Mc) (n : Int × Int) (ps : List Int) : Bool := fcIn m n && (decide (ps.length ≤ (onL m (fcN m n)).length) && decide (ukPut m n ps = ps))
def offB (m : Mc) (ps : List Int) : Bool := ps.all fun q => !(liveL m).contains q && !m.dr.contains q
def stB (m : Mc) (x : Inf) : Bool :=
  decide ((onL m x.n).getLast? = some ((m.ls.length : Int) - 1)) && ((decide (x.k = 2) || decide ((onL m x.n).length ≤ 1)) && ((!decide (x.k = 1) || offB m x.ps) && (!decide (x.k = 5) || holdB m x.n x.ps)))
def ukTo (m : Mc) (x : Inf) : Int := plc x.b x.p m.rk + (if x.d = -1 then 0 else 1)
def ukFrom (m : Mc) (x : Inf) : Int := plc x.b x.p m.rk + (if x.d = -1 then 1 else 0)
def crB (m : Mc) (x : Inf) : Bool := (carAt m x.y).i && decide ((carAt m x.y).p = ukTo m x)
def unkC (m : Mc) : Int := match m.ls.getLast? with
  | none => 7
  | some x => if stB m x = false then 6 else if crB m x = false then 9 else 0
def cutLs (m : Mc) : Mc := { m with ls := m.ls.take (m.ls.length - 1) }
def unkL (m : Mc) (x : Inf) : Mc := if x.k = 2 then setL m x.n (onL m x.n).dropLast else if x.k = 5 then setL (setL m (fcN m x.n) (ukRest m x.n x.ps)) x.n x.ps else setL m x.n x.ps
def unkM (m : Mc) : Mc := match m.ls.getLast? with
  | none => m
  | some x => cutLs (unkL (setC m x.y ⟨(carAt m x.y).i, ukFrom m x⟩) x)

/-! ### What lies on a needle is live -/
theorem ndX_mem {m : Mc} {n : Int × Int} (hb : n.1 = 1 ∨ n.1 = 2) (h0 : 0 ≤ n.2) (h1 : n.2 < m.wd) : n ∈ ndX m (plc n.1 n.2 m.rk) := by
  obtain ⟨b, a⟩ := n
  unfold ndX plc
  rcases hb with hb | hb
  · have hb' : b = 1 := hb
    subst hb'
    refine List.mem_append_left _ ?_
    have h1' : a < m.wd := h1
    have h0' : 0 ≤ a := h0
    rw [if_neg (show ¬ ((1 : Int) = 2) by omega), if_pos (show inB 0 a (m.wd - 1) = true from inB_iff.2 ⟨h0', by omega⟩)]
    simp
  · have hb' : b = 2 := hb
    subst hb'
    refine List.mem_append_right _ ?_
    have h1' : a < m.wd := h1
    have h0' : 0 ≤ a := h0
    rw [if_pos rfl, show a + m.rk - m.rk = a by omega, if_pos (show inB 0 a (m.wd - 1) = true from inB_iff.2 ⟨h0', by omega⟩)]
    simp
theorem ndGo_mem {m : Mc} {n : Int × Int} {p : Int} (h : n ∈ ndX m p) : ∀ (f : Nat) (x : Int), x ≤ p → p < x + f → n ∈ ndGo m f x
  | 0, x, h1, h2 => by omega
  | f + 1, x, h1, h2 => by
    rw [ndGo]
    by_cases e : x = p
    · subst e
      exact List.mem_append_left _ h
    · exact List.mem_append_right _ (ndGo_mem h f (x + 1) (by omega) (by omega))
theorem OkP.on_live {m : Mc} (h : OkP m) {n : Int × Int} (hn : ndIn m n) {k : Int} (hk : k ∈ onL m n) : k ∈ liveL m := by
  have h1 := h.wd
  have h2 := h.fr
  obtain ⟨hb, h0, hF, hB⟩ := hn
  have h3 : n.2 < m.wd := by omega
  have hp := plc_rng (b := n.1) h0 h3 h.rk.1 h.rk.2
  exact List.mem_flatMap.2 ⟨n, ndGo_mem (ndX_mem hb h0 h3) _ _ (by omega) (by omega), hk⟩
theorem OkP.fr_live {m : Mc} (h : OkP m) {k : Int} (hk : k ∈ m.fr.flatten) : k ∈ liveL m := by
  obtain ⟨l, hl, hkl⟩ := List.mem_flatten.1 hk
  obtain ⟨j, hj⟩ := List.mem_iff_getElem?.1 hl
  have hjl := (List.getElem?_eq_some_iff.1 hj).1
  have h2 := h.fr
  have h3 := h.bk
  refine h.on_live (n := (1, (j : Int))) ⟨.inl rfl, by simp, by simp; omega, by simp; omega⟩ ?_
  unfold onL
  rw [if_neg (by simp), List.getD_eq_getElem?_getD, show ((1, (j : Int)) : Int × Int).2.toNat = j by simp, hj]
  exact hkl
theorem OkP.bk_live {m : Mc} (h : OkP m) {k : Int} (hk : k ∈ m.bk.flatten) : k ∈ liveL m := by
  obtain ⟨l, hl, hkl⟩ := List.mem_flatten.1 hk
  obtain ⟨j, hj⟩ := List.mem_iff_getElem?.1 hl
  have hjl := (List.getElem?_eq_some_iff.1 hj).1
  have h2 := h.fr
  have h3 := h.bk
  refine h.on_live (n := (2, (j : Int))) ⟨.inr rfl, by simp, by simp; omega, by simp; omega⟩ ?_
  unfold onL
  rw [if_pos rfl, List.getD_eq_getElem?_getD, show ((2, (j : Int)) : Int × Int).2.toNat = j by simp, hj]
  exact hkl
theorem flat_part {L : List (List Int)} {k : Nat} {x : Int} (h : x ∈ (L.take k).flatten ++ (L.drop (k + 1)).flatten) : x ∈ L.flatten := by
  rcases List.mem_append.1 h with h | h
  · obtain ⟨l, hl, hx⟩ := List.mem_flatten.1 h
    exact List.mem_flatten.2 ⟨l, List.mem_of_mem_take hl, hx⟩
  · obtain ⟨l, hl, hx⟩ := List.mem_flatten.1 h
    exact List.mem_flatten.2 ⟨l, List.mem_of_mem_drop hl, hx⟩
theorem OkP.rest_live {m : Mc} (h : OkP m) {n : Int × Int} {k : Int} (hk : k ∈ restL m n) : k ∈ liveL m ∨ k ∈ m.dr := by
  unfold restL at hk
  split at hk
  · rcases List.mem_append.1 hk with hk | hk
    · exact .inl (h.fr_live hk)
    · rcases List.mem_append.1 hk with hk | hk
      · exact .inl (h.bk_live (flat_part hk))
      · exact .inr hk
  · rcases List.mem_append.1 hk with hk | hk
    · exact .inl (h.fr_live (flat_part hk))
    · rcases List.mem_append.1 hk with hk | hk
      · exact .inl (h.bk_live hk)
      · exact .inr hk

/-! ### The machine behind it is valid -/
theorem OkP.cut {m : Mc} (h : OkP m) (hr : ∀ x ∈ allL m, x < (m.ls.length : Int) - 1) : OkP (cutLs m) := by
  refine ⟨h.wd, h.rk, h.fr, h.bk, h.cs, ?_, h.f4, h.b4, h.car, fun j x hx => ?_, h.ris, h.nd, fun x hx => ?_⟩
  · show (m.ls.take _).length ≤ 300
    have := h.ls
    simp; omega
  · have hx' : (m.ls.take (m.ls.length - 1))[j]? = some x := hx
    rw [List.getElem?_take] at hx'
    split at hx'
    · exact h.inf j x hx'
    · cases hx'
  · have h1 := h.rng x hx
    have h2 := hr x hx
    refine ⟨h1.1, ?_⟩
    show x < ((m.ls.take (m.ls.length - 1)).length : Nat)
    simp; omega
/-- A needle's list replaced so that all loops but one stand: no two are one, and the last one is gone. -/
theorem OkP.less {m : Mc} (h : OkP m) {n : Int × Int} {l : List Int} (h4 : l.length ≤ 4) {L : Int} (hL : (m.ls.length : Int) - 1 = L) (hp : (allL m).Perm (L :: allL (Go.Proofs.Ytolcgopfbbmjgaa.setL m n l))) : OkP (Go.Proofs.Ytolcgopfbbmjgaa.setL m n l) ∧ ∀ x ∈ allL (Go.Proofs.Ytolcgopfbbmjgaa.setL m n l), x < L := by
  have h1 := hp.nodup_iff.1 h.nd
  obtain ⟨h2, h3⟩ := List.nodup_cons.1 h1
  have hr : ∀ x ∈ allL (Go.Proofs.Ytolcgopfbbmjgaa.setL m n l), 0 ≤ x ∧ x < m.ls.length := fun x hx => h.rng x (hp.mem_iff.2 (List.mem_cons_of_mem _ hx))
  exact ⟨h.setL n l h4 h3 hr, fun x hx => by
    have h5 := hr x hx
    have h6 : x ≠ L := fun e => h2 (e ▸ hx)
    omega⟩
/-- The parts that the last loop of a valid machine has. -/
structure LastP (m : Mc) (x : Inf) : Prop where
  n : ndIn m x.n
  k : x.k = 1 ∨ x.k = 2 ∨ x.k = 5
  y : 1 ≤ x.y ∧ x.y ≤ 4
  b : x.b = 1 ∨ x.b = 2
  p0 : 0 ≤ x.p
  p1 : x.p < m.wd
  d : x.d = 1 ∨ x.d = -1
  len : x.ps.length ≤ 4
  nd : x.ps.Nodup
  lt : ∀ q ∈ x.ps, 0 ≤ q ∧ q < (m.ls.length : Int) - 1
theorem OkP.last {m : Mc} (h : OkP m) {x : Inf} (hx : m.ls.getLast? = some x) : LastP m x ∧ 0 < m.ls.length := by
  have hl : 0 < m.ls.length := by
    rcases Nat.eq_zero_or_pos m.ls.length with e | e
    · rw [List.length_eq_zero_iff.1 e] at hx; cases hx
    · exact e
  have hx' : m.ls[m.ls.length - 1]? = some x := by rw [← List.getLast?_eq_getElem?]; exact hx
  have h1 := h.inf _ x hx'
  unfold okInf kindM headI bedM at h1
  simp only [Bool.and_eq_true, decide_eq_true_eq, inB_iff, dirM_iff, parsB_iff] at h1
  obtain ⟨k, ⟨y, b, p, d⟩, len, ⟨pr, pn, -⟩, -⟩ := h1
  have hp1 : x.p < m.wd := by omega
  exact ⟨⟨h.need b p.1 hp1, k, y, b, p.1, hp1, d, len, pn, fun q hq => by have := pr q hq; omega⟩, hl⟩
theorem fc_cases (m : Mc) (n : Int × Int) (hb : n.1 = 1 ∨ n.1 = 2) : ((fcN m n).1 = 1 ∨ (fcN m n).1 = 2) ∧ (fcN m n).1 ≠ n.1 := by
  unfold fcN
  rcases hb with hb | hb
  · rw [if_neg (by omega)]; exact ⟨.inr rfl, by show (2 : Int) ≠ n.1; omega⟩
  · rw [if_pos hb]; exact ⟨.inl rfl, by show (1 : Int) ≠ n.1; omega⟩
theorem OkP.fc {m : Mc} (h : OkP m) {n : Int × Int} (hb : n.1 = 1 ∨ n.1 = 2) (hi : fcIn m n = true) : ndIn m (fcN m n) := by
  have h1 := inB_iff.1 hi
  exact h.need (fc_cases m n hb).1 h1.1 (by omega)
theorem put_rest {m : Mc} {n : Int × Int} {ps : List Int} (hl : ps.length ≤ (onL m (fcN m n)).length) (hp : ukPut m n ps = ps) : (onL m (fcN m n)).Perm (ps ++ ukRest m n ps) := by
  unfold ukPut at hp
  unfold ukRest
  split at hp
  · rename_i e
    rw [if_pos e]
    conv => lhs; rw [← List.take_append_drop ps.length (onL m (fcN m n)), hp]
  · rename_i e
    rw [if_neg e]
    conv => lhs; rw [← List.take_append_drop ((onL m (fcN m n)).length - ps.length) (onL m (fcN m n)), hp]
    exact List.perm_append_comm
/-- The needles' lists behind it. -/
theorem OkP.unkL {m : Mc} (h : OkP m) {x : Inf} (hx : m.ls.getLast? = some x) (hs : stB m x = true) : OkP (Go.Proofs.Ytolcgopfbbmjgaa.unkL m x) ∧ ∀ q ∈ allL (Go.Proofs.Ytolcgopfbbmjgaa.unkL m x), q < (m.ls.length : Int) - 1 := by
  obtain ⟨hP, hl⟩ := h.last hx
  unfold stB at hs
  simp only [Bool.and_eq_true, decide_eq_true_eq, Bool.or_eq_true, Bool.not_eq_true', decide_eq_false_iff_not] at hs
  obtain ⟨hlast, hone, hoff, hhold⟩ := hs
  have p0 := all_get hP.n
  have hne : onL m x.n ≠ [] := fun e => by rw [e] at hlast; cases hlast
  have hsp : onL m x.n = (onL m x.n).dropLast ++ [(m.ls.length : Int) - 1] := by
    have h1 := List.dropLast_concat_getLast hne
    rw [List.getLast?_eq_some_getLast hne] at hlast
    injection hlast with hlast
    rw [hlast] at h1
    exact h1.symm
  have h4 := h.on4 x.n
  unfold Go.Proofs.Ytolcgopfbbmjgaa.unkL
  by_cases e2 : x.k = 2
  · rw [if_pos e2]
    refine h.less (by rw [List.length_dropLast]; omega) rfl ?_
    have p1 := all_set (onL m x.n).dropLast hP.n
    rw [hsp, List.append_assoc] at p0
    refine p0.trans (List.perm_middle.trans ((List.Perm.cons _ p1.symm)))
  · rw [if_neg e2]
    have h1 : (onL m x.n).length ≤ 1 := by rcases hone with h1 | h1; exact absurd h1 e2; exact h1
    have hdl : (onL m x.n).dropLast = [] := List.eq_nil_of_length_eq_zero (by rw [List.length_dropLast]; omega)
    rw [hdl, List.nil_append] at hsp
    rw [hsp] at p0
    by_cases e5 : x.k = 5
    · rw [if_pos e5]
      have hh : holdB m x.n x.ps = true := by rcases hhold with h9 | h9; exact absurd e5 h9; exact h9
      unfold holdB at hh
      simp only [Bool.and_eq_true, decide_eq_true_eq] at hh
      obtain ⟨hf, hpl, hput⟩ := hh
      have hfn := h.fc hP.b hf
      have pr := put_rest hpl hput
      have q0 := all_get hfn
      have q1 := all_set (ukRest m x.n x.ps) hfn
      -- all of m: the parents and all of m1
      have q2 : (allL m).Perm (x.ps ++ allL (Go.Proofs.Ytolcgopfbbmjgaa.setL m (fcN m x.n) (ukRest m x.n x.ps))) := by
        refine (q0.trans (pr.append_right _)).trans ?_
        rw [List.append_assoc]
        exact q1.symm.append_left _
      have hr4 : (ukRest m x.n x.ps).length ≤ 4 := by
        have := pr.length_eq
        rw [List.length_append] at this
        have := h.on4 (fcN m x.n)
        omega
      have nd2 := q2.nodup_iff.1 h.nd
      have hm1 : OkP (Go.Proofs.Ytolcgopfbbmjgaa.setL m (fcN m x.n) (ukRest m x.n x.ps)) := h.setL _ _ hr4 (nd2.sublist (List.sublist_append_right _ _)) (fun q hq => h.rng q (q2.mem_iff.2 (List.mem_append_right _ hq)))
      have hn1 : ndIn (Go.Proofs.Ytolcgopfbbmjgaa.setL m (fcN m x.n) (ukRest m x.n x.ps)) x.n := ndIn_set _ hP.n
      have r0 := all_get hn1
      have r1 := all_set x.ps hn1
      have eon : onL (Go.Proofs.Ytolcgopfbbmjgaa.setL m (fcN m x.n) (ukRest m x.n x.ps)) x.n = [(m.ls.length : Int) - 1] := by
        rw [onL_setL_ne _ hP.n hfn (fun e => (fc_cases m x.n hP.b).2 e.symm), hsp]
      rw [eon] at r0
      have r2 : (allL m).Perm (((m.ls.length : Int) - 1) :: allL (Go.Proofs.Ytolcgopfbbmjgaa.setL (Go.Proofs.Ytolcgopfbbmjgaa.setL m (fcN m x.n) (ukRest m x.n x.ps)) x.n x.ps)) := by
        refine q2.trans ((r0.append_left x.ps).trans ?_)
        refine List.Perm.trans ?_ (List.Perm.cons _ r1.symm)
        exact List.perm_middle
      have nd3 := r2.nodup_iff.1 h.nd
      obtain ⟨g1, g2⟩ := List.nodup_cons.1 nd3
      have hr : ∀ q ∈ allL (Go.Proofs.Ytolcgopfbbmjgaa.setL (Go.Proofs.Ytolcgopfbbmjgaa.setL m (fcN m x.n) (ukRest m x.n x.ps)) x.n x.ps), 0 ≤ q ∧ q < m.ls.length := fun q hq => h.rng q (r2.mem_iff.2 (List.mem_cons_of_mem _ hq))
      have els : (Go.Proofs.Ytolcgopfbbmjgaa.setL m (fcN m x.n) (ukRest m x.n x.ps)).ls = m.ls := (setL_fr m _ _).2.2.2.2.2.1
      refine ⟨hm1.setL _ _ hP.len g2 (fun q hq => by rw [els]; exact hr q hq), fun q hq => ?_⟩
      have h5 := hr q hq
      have h6 : q ≠ (m.ls.length : Int) - 1 := fun e => g1 (e ▸ hq)
      omega
    · rw [if_neg e5]
      have e1 : x.k = 1 := by rcases hP.k with h9 | h9 | h9; exact h9; exact absurd h9 e2; exact absurd h9 e5
      have hof : offB m x.ps = true := by rcases hoff with h9 | h9; exact absurd e1 h9; exact h9
      have p1 := all_set x.ps hP.n
      have nd0 := p0.nodup_iff.1 h.nd
      obtain ⟨g1, g2⟩ := List.nodup_cons.1 nd0
      have hdis : ∀ q ∈ x.ps, q ∉ restL m x.n := fun q hq hr => by
        have h9 := List.all_eq_true.1 hof q hq
        simp only [Bool.and_eq_true, Bool.not_eq_true', List.contains_eq_mem, decide_eq_false_iff_not] at h9
        rcases h.rest_live hr with h8 | h8
        · exact h9.1 h8
        · exact h9.2 h8
      have hnd : (allL (Go.Proofs.Ytolcgopfbbmjgaa.setL m x.n x.ps)).Nodup := p1.nodup_iff.2 (List.nodup_append.2 ⟨hP.nd, g2, fun a ha b hb e => hdis a ha (e ▸ hb)⟩)
      have hr : ∀ q ∈ allL (Go.Proofs.Ytolcgopfbbmjgaa.setL m x.n x.ps), 0 ≤ q ∧ q < (m.ls.length : Int) - 1 := fun q hq => by
        rcases List.mem_append.1 (p1.mem_iff.1 hq) with h9 | h9
        · exact hP.lt q h9
        · have h8 := h.rng q (p0.mem_iff.2 (List.mem_cons_of_mem _ h9))
          have h7 : q ≠ (m.ls.length : Int) - 1 := fun e => g1 (e ▸ h9)
          omega
      exact ⟨h.setL _ _ hP.len hnd (fun q hq => by have := hr q hq; omega), fun q hq => (hr q hq).2⟩
theorem ndGo_setC (m : Mc) (y : Int) (c : Car) : ∀ (f : Nat) (x : Int), ndGo (Go.Proofs.Ytolcgopfbbmjgaa.setC m y c) f x = ndGo m f x
  | 0, _ => rfl
  | f + 1, x => by
    rw [ndGo, ndGo, ndGo_setC m y c f (x + 1)]
    rfl
theorem liveL_setC (m : Mc) (y : Int) (c : Car) : liveL (Go.Proofs.Ytolcgopfbbmjgaa.setC m y c) = liveL m := by
  unfold liveL ndL
  rw [show (Go.Proofs.Ytolcgopfbbmjgaa.setC m y c).wd = m.wd from rfl, ndGo_setC]
  rfl
theorem stB_setC (m : Mc) (y : Int) (c : Car) (x : Inf) : stB (Go.Proofs.Ytolcgopfbbmjgaa.setC m y c) x = stB m x := by
  unfold stB offB
  rw [liveL_setC]
  rfl
theorem OkP.unk {m : Mc} (h : OkP m) (hc : unkC m = 0) : OkP (unkM m) := by
  unfold unkC at hc
  unfold unkM
  cases hx : m.ls.getLast? with
  | none => rw [hx] at hc; simp at hc
  | some x =>
    rw [hx] at hc
    simp only at hc ⊢
    cases hs : stB m x with
    | false => rw [hs] at hc; simp at hc
    | true =>
      rw [hs] at hc
      cases hr : crB m x with
      | false => rw [hr] at hc; simp at hc
      | true =>
        obtain ⟨hP, hl⟩ := h.last hx
        unfold crB at hr
        simp only [Bool.and_eq_true] at hr
        have hpl := plc_rng (b := x.b) hP.p0 hP.p1 h.rk.1 h.rk.2
        have h1 : OkP (Go.Proofs.Ytolcgopfbbmjgaa.setC m x.y ⟨(carAt m x.y).i, ukFrom m x⟩) := h.setC _ _ (carB_iff.2 ⟨by show -3 ≤ ukFrom m x; unfold ukFrom; split <;> omega, by show ukFrom m x ≤ m.wd + 3; unfold ukFrom; split <;> omega, .inl hr.1⟩)
        have h2 := h1.unkL (x := x) hx ((stB_setC m x.y _ x).trans hs)
        refine h2.1.cut (fun q hq => ?_)
        have h3 := h2.2 q hq
        have els : (Go.Proofs.Ytolcgopfbbmjgaa.unkL (Go.Proofs.Ytolcgopfbbmjgaa.setC m x.y ⟨(carAt m x.y).i, ukFrom m x⟩) x).ls = m.ls := by
          unfold Go.Proofs.Ytolcgopfbbmjgaa.unkL
          split
          · exact (setL_fr _ _ _).2.2.2.2.2.1
          · split
            · exact ((setL_fr _ _ _).2.2.2.2.2.1).trans (setL_fr _ _ _).2.2.2.2.2.1
            · exact (setL_fr _ _ _).2.2.2.2.2.1
        rw [els]
        exact h3

end Go.Proofs.Ytolcgopfbbmjgaa
