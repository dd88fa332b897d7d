/-
  What is written into a machine of a call's own.
-/
import Derived.Test.YtogaellhkjjeaaaMs
namespace Go.Proofs.Ytogaellhkjjeaaa
set_option linter.unusedVariables false
set_option linter.unusedSimpArgs false
open Go.RowKit

section
variable {w w' : World} {B g : Nat} {m : Mc} {S : Nat → Spot}
theorem MSt.gF (h : MSt w B g m S) (hn : 0 < m.fr.length) : ∃ b cap, (S 1).v = .slice (some ⟨b, 0, none⟩) m.fr.length cap ∧ B ≤ b ∧ b < w.heap.size ∧ m.fr.length ≤ cap ∧ (S 1).v.ownBlock = some b := by
  obtain ⟨xs, e, _⟩ := h.fr
  exact row_slice (h.owned e) hn
theorem MSt.gB (h : MSt w B g m S) (hn : 0 < m.bk.length) : ∃ b cap, (S 2).v = .slice (some ⟨b, 0, none⟩) m.bk.length cap ∧ B ≤ b ∧ b < w.heap.size ∧ m.bk.length ≤ cap ∧ (S 2).v.ownBlock = some b := by
  obtain ⟨xs, e, _⟩ := h.bk
  exact row_slice (h.owned e) hn
theorem MSt.gC (h : MSt w B g m S) (hn : 0 < m.cs.length) : ∃ b cap, (S 3).v = .slice (some ⟨b, 0, none⟩) m.cs.length cap ∧ B ≤ b ∧ b < w.heap.size ∧ m.cs.length ≤ cap ∧ (S 3).v.ownBlock = some b := row_slice (h.owned h.cs) hn
/-- One needle's header, and its list. -/
theorem MSt.listF (h : MSt w B g m S) {k b : Nat} (hk : k < m.fr.length) (hb : (S 1).v.ownBlock = some b) : w.cell? ⟨b, k, none⟩ = some (S (iF k)).v ∧ (∀ o, w.frozen? ⟨b, o, none⟩ = false) ∧ S (iF k) = spI (S (iF k)).v m.fr[k] := by
  obtain ⟨xs, e, hx⟩ := h.fr
  obtain ⟨h1, h2⟩ := Spot.cell (h.sp.own 1) hb (x := (S (iF k)).v) (i := k) (by rw [e]; exact hx k hk)
  exact ⟨h1, h2, h.fl k _ (List.getElem?_eq_getElem hk)⟩
theorem MSt.listB (h : MSt w B g m S) {k b : Nat} (hk : k < m.bk.length) (hb : (S 2).v.ownBlock = some b) : w.cell? ⟨b, k, none⟩ = some (S (iB k)).v ∧ (∀ o, w.frozen? ⟨b, o, none⟩ = false) ∧ S (iB k) = spI (S (iB k)).v m.bk[k] := by
  obtain ⟨xs, e, hx⟩ := h.bk
  obtain ⟨h1, h2⟩ := Spot.cell (h.sp.own 2) hb (x := (S (iB k)).v) (i := k) (by rw [e]; exact hx k hk)
  exact ⟨h1, h2, h.bl k _ (List.getElem?_eq_getElem hk)⟩
/-- A needle of the front is given another list. -/
theorem MSt.setF {k b : Nat} {l' : List Int} {v' : Value} (h : MSt w B g m S) (hk : k < m.fr.length) (hb : (S 1).v.ownBlock = some b) (hsp : SpotsT w' B (putS S (iF k) (spI v' l'))) :
    MSt (w'.setCell ⟨b, k, none⟩ v') B g { m with fr := m.fr.set k l' } (putS (putS S (iF k) (spI v' l')) 1 { S 1 with xs := (S 1).xs.set k v' }) := by
  have hne : iF k ≠ 1 := by unfold iF; omega
  have e1 : putS S (iF k) (spI v' l') 1 = S 1 := putS_ne (fun e => hne e.symm)
  have hsz : k < (S 1).n * (S 1).sz := by obtain ⟨xs, e, _⟩ := h.fr; rw [e]; show k < m.fr.length * 1; omega
  have hsp2 := hsp.setCell (p := 1) (g := b) (i := k) (by rw [e1]; exact hb) v' (by rw [e1]; exact hsz)
  rw [e1] at hsp2
  have ev : ∀ j, j ≠ 1 → j ≠ iF k → (putS (putS S (iF k) (spI v' l')) 1 { S 1 with xs := (S 1).xs.set k v' }) j = S j := fun j h1 h2 => by rw [putS_ne h1, putS_ne h2]
  have ek : (putS (putS S (iF k) (spI v' l')) 1 { S 1 with xs := (S 1).xs.set k v' }) (iF k) = spI v' l' := by rw [putS_ne hne, putS_same]
  have e1' : (putS (putS S (iF k) (spI v' l')) 1 { S 1 with xs := (S 1).xs.set k v' }) 1 = { S 1 with xs := (S 1).xs.set k v' } := putS_same _ _ _
  refine ⟨hsp2, ?_, ?_, ?_, ?_, ?_, ?_, fun j l hl => ?_, fun j l hl => ?_, fun j x hx => ?_⟩
  · rw [ev 0 (by omega) (by unfold iF; omega), e1', ev 2 (by omega) (by unfold iF; omega), ev 3 (by omega) (by unfold iF; omega), ev 4 (by omega) (by unfold iF; omega), ev 5 (by omega) (by unfold iF; omega)]
    exact h.box
  · obtain ⟨xs, e, hx⟩ := h.fr
    refine ⟨(S 1).xs.set k v', ?_, fun j hj => ?_⟩
    · rw [e1']
      show (⟨(S 1).E, (S 1).sz, (S 1).v, (S 1).n, _⟩ : Spot) = ⟨_, _, (S 1).v, (m.fr.set k l').length, _⟩
      rw [List.length_set]
      have h1 : (S 1).E = 27 := by rw [e]
      have h2 : (S 1).sz = 1 := by rw [e]
      have h3 : (S 1).n = m.fr.length := by rw [e]
      rw [h1, h2, h3]
    · have hj' : j < m.fr.length := by simpa using hj
      have hxs : (S 1).xs = xs := by rw [e]
      have hxl : (S 1).xs.length = m.fr.length := by have := (h.owned e).1; rw [hxs, this]; omega
      by_cases hjk : j = k
      · rw [hjk, ek, List.getElem?_set_self (by omega)]
      · rw [ev _ (by unfold iF; omega) (by unfold iF; omega), List.getElem?_set_ne (fun e => hjk e.symm), hxs]
        exact hx j hj'
  · obtain ⟨xs, e, hx⟩ := h.bk
    rw [ev 2 (by omega) (by unfold iF; omega)]
    refine ⟨xs, e, fun j hj => ?_⟩
    rw [ev _ (by unfold iB; omega) (by unfold iB iF; omega)]
    exact hx j hj
  · rw [ev 3 (by omega) (by unfold iF; omega)]; exact h.cs
  · obtain ⟨xs, e, hx⟩ := h.ls
    rw [ev 4 (by omega) (by unfold iF; omega)]
    refine ⟨xs, e, fun j x hj => ?_⟩
    rw [ev _ (by unfold iP; omega) (by unfold iP iF; omega)]
    exact hx j x hj
  · rw [ev 5 (by omega) (by unfold iF; omega)]; exact h.dr
  · by_cases hjk : j = k
    · subst hjk
      have hl' : (m.fr.set j l')[j]? = some l := hl
      rw [List.getElem?_set_self hk] at hl'
      injection hl' with hl'
      subst hl'
      rw [ek]
    · have hl' : (m.fr.set k l')[j]? = some l := hl
      rw [List.getElem?_set_ne (fun e => hjk e.symm)] at hl'
      rw [ev _ (by unfold iF; omega) (by unfold iF; omega)]
      exact h.fl j l hl'
  · rw [ev _ (by unfold iB; omega) (by unfold iB iF; omega)]; exact h.bl j l hl
  · rw [ev _ (by unfold iP; omega) (by unfold iP iF; omega)]; exact h.pl j x hx
/-- A needle of the back is given another list. -/
theorem MSt.setB {k b : Nat} {l' : List Int} {v' : Value} (h : MSt w B g m S) (hk : k < m.bk.length) (hb : (S 2).v.ownBlock = some b) (hsp : SpotsT w' B (putS S (iB k) (spI v' l'))) :
    MSt (w'.setCell ⟨b, k, none⟩ v') B g { m with bk := m.bk.set k l' } (putS (putS S (iB k) (spI v' l')) 2 { S 2 with xs := (S 2).xs.set k v' }) := by
  have hne : iB k ≠ 2 := by unfold iB; omega
  have e1 : putS S (iB k) (spI v' l') 2 = S 2 := putS_ne (fun e => hne e.symm)
  have hsz : k < (S 2).n * (S 2).sz := by obtain ⟨xs, e, _⟩ := h.bk; rw [e]; show k < m.bk.length * 1; omega
  have hsp2 := hsp.setCell (p := 2) (g := b) (i := k) (by rw [e1]; exact hb) v' (by rw [e1]; exact hsz)
  rw [e1] at hsp2
  have ev : ∀ j, j ≠ 2 → j ≠ iB k → (putS (putS S (iB k) (spI v' l')) 2 { S 2 with xs := (S 2).xs.set k v' }) j = S j := fun j h1 h2 => by rw [putS_ne h1, putS_ne h2]
  have ek : (putS (putS S (iB k) (spI v' l')) 2 { S 2 with xs := (S 2).xs.set k v' }) (iB k) = spI v' l' := by rw [putS_ne hne, putS_same]
  have e1' : (putS (putS S (iB k) (spI v' l')) 2 { S 2 with xs := (S 2).xs.set k v' }) 2 = { S 2 with xs := (S 2).xs.set k v' } := putS_same _ _ _
  refine ⟨hsp2, ?_, ?_, ?_, ?_, ?_, ?_, fun j l hl => ?_, fun j l hl => ?_, fun j x hx => ?_⟩
  · rw [ev 0 (by omega) (by unfold iB; omega), e1', ev 1 (by omega) (by unfold iB; omega), ev 3 (by omega) (by unfold iB; omega), ev 4 (by omega) (by unfold iB; omega), ev 5 (by omega) (by unfold iB; omega)]
    exact h.box
  · obtain ⟨xs, e, hx⟩ := h.fr
    rw [ev 1 (by omega) (by unfold iB; omega)]
    refine ⟨xs, e, fun j hj => ?_⟩
    rw [ev _ (by unfold iF; omega) (by unfold iF iB; omega)]
    exact hx j hj
  · obtain ⟨xs, e, hx⟩ := h.bk
    refine ⟨(S 2).xs.set k v', ?_, fun j hj => ?_⟩
    · rw [e1']
      show (⟨(S 2).E, (S 2).sz, (S 2).v, (S 2).n, _⟩ : Spot) = ⟨_, _, (S 2).v, (m.bk.set k l').length, _⟩
      rw [List.length_set]
      have h1 : (S 2).E = 27 := by rw [e]
      have h2 : (S 2).sz = 1 := by rw [e]
      have h3 : (S 2).n = m.bk.length := by rw [e]
      rw [h1, h2, h3]
    · have hj' : j < m.bk.length := by simpa using hj
      have hxs : (S 2).xs = xs := by rw [e]
      have hxl : (S 2).xs.length = m.bk.length := by have := (h.owned e).1; rw [hxs, this]; omega
      by_cases hjk : j = k
      · rw [hjk, ek, List.getElem?_set_self (by omega)]
      · rw [ev _ (by unfold iB; omega) (by unfold iB; omega), List.getElem?_set_ne (fun e => hjk e.symm), hxs]
        exact hx j hj'
  · rw [ev 3 (by omega) (by unfold iB; omega)]; exact h.cs
  · obtain ⟨xs, e, hx⟩ := h.ls
    rw [ev 4 (by omega) (by unfold iB; omega)]
    refine ⟨xs, e, fun j x hj => ?_⟩
    rw [ev _ (by unfold iP; omega) (by unfold iP iB; omega)]
    exact hx j x hj
  · rw [ev 5 (by omega) (by unfold iB; omega)]; exact h.dr
  · rw [ev _ (by unfold iF; omega) (by unfold iF iB; omega)]; exact h.fl j l hl
  · by_cases hjk : j = k
    · subst hjk
      have hl' : (m.bk.set j l')[j]? = some l := hl
      rw [List.getElem?_set_self hk] at hl'
      injection hl' with hl'
      subst hl'
      rw [ek]
    · have hl' : (m.bk.set k l')[j]? = some l := hl
      rw [List.getElem?_set_ne (fun e => hjk e.symm)] at hl'
      rw [ev _ (by unfold iB; omega) (by unfold iB; omega)]
      exact h.bl j l hl'
  · rw [ev _ (by unfold iP; omega) (by unfold iP iB; omega)]; exact h.pl j x hx
/-- The rack is set. -/
theorem MSt.setRk {r : Int} (h : MSt w B g m S) : MSt (w.setCell ⟨g, 1, none⟩ (.int .i64 r)) B g { m with rk := r } (putS S 0 { S 0 with xs := (S 0).xs.set 1 (.int .i64 r) }) := by
  have hsp := h.sp.setCell (p := 0) (g := g) (i := 1) h.gbox (.int .i64 r) (by rw [h.box]; simp)
  have ev : ∀ j, j ≠ 0 → (putS S 0 { S 0 with xs := (S 0).xs.set 1 (.int .i64 r) }) j = S j := fun j h1 => putS_ne h1
  refine ⟨hsp, ?_, ?_, ?_, ?_, ?_, ?_, fun j l hl => ?_, fun j l hl => ?_, fun j x hx => ?_⟩
  · rw [putS_same, ev 1 (by omega), ev 2 (by omega), ev 3 (by omega), ev 4 (by omega), ev 5 (by omega), h.box]
    rfl
  · rw [ev 1 (by omega)]
    obtain ⟨xs, e, hx⟩ := h.fr
    exact ⟨xs, e, fun j hj => by rw [ev _ (by unfold iF; omega)]; exact hx j hj⟩
  · rw [ev 2 (by omega)]
    obtain ⟨xs, e, hx⟩ := h.bk
    exact ⟨xs, e, fun j hj => by rw [ev _ (by unfold iB; omega)]; exact hx j hj⟩
  · rw [ev 3 (by omega)]; exact h.cs
  · rw [ev 4 (by omega)]
    obtain ⟨xs, e, hx⟩ := h.ls
    exact ⟨xs, e, fun j x hj => by rw [ev _ (by unfold iP; omega)]; exact hx j x hj⟩
  · rw [ev 5 (by omega)]; exact h.dr
  · rw [ev _ (by unfold iF; omega)]; exact h.fl j l hl
  · rw [ev _ (by unfold iB; omega)]; exact h.bl j l hl
  · rw [ev _ (by unfold iP; omega)]; exact h.pl j x hx
/-- The cells of the carriers are written: they are another list's. -/
theorem MSt.setCs {cs' : List Car} {xs' : List Value} (h : MSt w B g m S) (hl : cs'.length = m.cs.length) (hx : xs' = vS Car.cells cs') (hsp : SpotsT w' B (putS S 3 { S 3 with xs := xs' })) : MSt w' B g { m with cs := cs' } (putS S 3 { S 3 with xs := xs' }) := by
  subst hx
  have ev : ∀ j, j ≠ 3 → (putS S 3 { S 3 with xs := vS Car.cells cs' }) j = S j := fun j h1 => putS_ne h1
  refine ⟨hsp, ?_, ?_, ?_, ?_, ?_, ?_, fun j l hl => ?_, fun j l hl => ?_, fun j x hx => ?_⟩
  · rw [ev 0 (by omega), ev 1 (by omega), ev 2 (by omega), putS_same, ev 4 (by omega), ev 5 (by omega)]
    exact h.box
  · rw [ev 1 (by omega)]
    obtain ⟨xs, e, hx⟩ := h.fr
    exact ⟨xs, e, fun j hj => by rw [ev _ (by unfold iF; omega)]; exact hx j hj⟩
  · rw [ev 2 (by omega)]
    obtain ⟨xs, e, hx⟩ := h.bk
    exact ⟨xs, e, fun j hj => by rw [ev _ (by unfold iB; omega)]; exact hx j hj⟩
  · rw [putS_same]
    show (⟨(S 3).E, (S 3).sz, (S 3).v, (S 3).n, _⟩ : Spot) = ⟨_, _, (S 3).v, cs'.length, _⟩
    have h1 : (S 3).E = 78 := by rw [h.cs]
    have h2 : (S 3).sz = 2 := by rw [h.cs]
    have h3 : (S 3).n = m.cs.length := by rw [h.cs]
    rw [h1, h2, h3, hl]
  · rw [ev 4 (by omega)]
    obtain ⟨xs, e, hx⟩ := h.ls
    exact ⟨xs, e, fun j x hj => by rw [ev _ (by unfold iP; omega)]; exact hx j x hj⟩
  · rw [ev 5 (by omega)]; exact h.dr
  · rw [ev _ (by unfold iF; omega)]; exact h.fl j l hl
  · rw [ev _ (by unfold iB; omega)]; exact h.bl j l hl
  · rw [ev _ (by unfold iP; omega)]; exact h.pl j x hx
/-- What was dropped is another list. -/
theorem MSt.setDr {v' : Value} {l' : List Int} (h : MSt w B g m S) (hsp : SpotsT w' B (putS S 5 (spI v' l'))) : MSt (w'.setCell ⟨g, 6, none⟩ v') B g { m with dr := l' } (putS (putS S 5 (spI v' l')) 0 { S 0 with xs := (S 0).xs.set 6 v' }) := by
  have e0 : putS S 5 (spI v' l') 0 = S 0 := putS_ne (by omega)
  have hsp2 := hsp.setCell (p := 0) (g := g) (i := 6) (by rw [e0]; exact h.gbox) v' (by rw [e0, h.box]; simp)
  rw [e0] at hsp2
  have ev : ∀ j, j ≠ 0 → j ≠ 5 → (putS (putS S 5 (spI v' l')) 0 { S 0 with xs := (S 0).xs.set 6 v' }) j = S j := fun j h1 h2 => by rw [putS_ne h1, putS_ne h2]
  have e5 : (putS (putS S 5 (spI v' l')) 0 { S 0 with xs := (S 0).xs.set 6 v' }) 5 = spI v' l' := by rw [putS_ne (by omega), putS_same]
  refine ⟨hsp2, ?_, ?_, ?_, ?_, ?_, ?_, fun j l hl => ?_, fun j l hl => ?_, fun j x hx => ?_⟩
  · rw [putS_same, ev 1 (by omega) (by omega), ev 2 (by omega) (by omega), ev 3 (by omega) (by omega), ev 4 (by omega) (by omega), e5, h.box]
    rfl
  · rw [ev 1 (by omega) (by omega)]
    obtain ⟨xs, e, hx⟩ := h.fr
    exact ⟨xs, e, fun j hj => by rw [ev _ (by unfold iF; omega) (by unfold iF; omega)]; exact hx j hj⟩
  · rw [ev 2 (by omega) (by omega)]
    obtain ⟨xs, e, hx⟩ := h.bk
    exact ⟨xs, e, fun j hj => by rw [ev _ (by unfold iB; omega) (by unfold iB; omega)]; exact hx j hj⟩
  · rw [ev 3 (by omega) (by omega)]; exact h.cs
  · rw [ev 4 (by omega) (by omega)]
    obtain ⟨xs, e, hx⟩ := h.ls
    exact ⟨xs, e, fun j x hj => by rw [ev _ (by unfold iP; omega) (by unfold iP; omega)]; exact hx j x hj⟩
  · rw [e5]
  · rw [ev _ (by unfold iF; omega) (by unfold iF; omega)]; exact h.fl j l hl
  · rw [ev _ (by unfold iB; omega) (by unfold iB; omega)]; exact h.bl j l hl
  · rw [ev _ (by unfold iP; omega) (by unfold iP; omega)]; exact h.pl j x hx
/-- A loop more: its parents' row stands already, the row of loops has grown; the box is told. -/
theorem MSt.addL {x : Inf} {vp vl : Value} {xs xs' : List Value} (h : MSt w B g m S) (e4 : S 4 = ⟨37, 6, (S 4).v, m.ls.length, xs⟩) (hxs : xs' = xs ++ [.int .i64 x.k, .int .i64 x.y, .int .i64 x.b, .int .i64 x.p, .int .i64 x.d, vp])
    (hsp : SpotsT w' B (putS (putS S (iP m.ls.length) (spI vp x.ps)) 4 ⟨37, 6, vl, m.ls.length + 1, xs'⟩)) :
    MSt (w'.setCell ⟨g, 5, none⟩ vl) B g { m with ls := m.ls ++ [x] } (putS (putS (putS S (iP m.ls.length) (spI vp x.ps)) 4 ⟨37, 6, vl, m.ls.length + 1, xs'⟩) 0 { S 0 with xs := (S 0).xs.set 5 vl }) := by
  have hp : iP m.ls.length ≠ 0 ∧ iP m.ls.length ≠ 1 ∧ iP m.ls.length ≠ 2 ∧ iP m.ls.length ≠ 3 ∧ iP m.ls.length ≠ 4 ∧ iP m.ls.length ≠ 5 := by unfold iP; omega
  have e0 : (putS (putS S (iP m.ls.length) (spI vp x.ps)) 4 ⟨37, 6, vl, m.ls.length + 1, xs'⟩) 0 = S 0 := by rw [putS_ne (by omega), putS_ne (by omega)]
  have hsp2 := hsp.setCell (p := 0) (g := g) (i := 5) (by rw [e0]; exact h.gbox) vl (by rw [e0, h.box]; simp)
  rw [e0] at hsp2
  generalize hS' : (putS (putS (putS S (iP m.ls.length) (spI vp x.ps)) 4 ⟨37, 6, vl, m.ls.length + 1, xs'⟩) 0 { S 0 with xs := (S 0).xs.set 5 vl }) = S' at hsp2
  have ev : ∀ j, j ≠ 0 → j ≠ 4 → j ≠ iP m.ls.length → S' j = S j := fun j h1 h2 h3 => by rw [← hS', putS_ne h1, putS_ne h2, putS_ne h3]
  have ez : S' 0 = { S 0 with xs := (S 0).xs.set 5 vl } := by rw [← hS', putS_same]
  have e4' : S' 4 = ⟨37, 6, vl, m.ls.length + 1, xs'⟩ := by rw [← hS', putS_ne (by omega), putS_same]
  have ep : S' (iP m.ls.length) = spI vp x.ps := by rw [← hS', putS_ne (by omega), putS_ne (by omega), putS_same]
  have hxl : xs.length = m.ls.length * 6 := by have := (h.owned e4).1; exact this
  refine ⟨hsp2, ?_, ?_, ?_, ?_, ?_, ?_, fun j l hl => ?_, fun j l hl => ?_, fun j y hy => ?_⟩
  · rw [ez, ev 1 (by omega) (by omega) (by omega), ev 2 (by omega) (by omega) (by omega), ev 3 (by omega) (by omega) (by omega), e4', ev 5 (by omega) (by omega) (by omega), h.box]
    rfl
  · rw [ev 1 (by omega) (by omega) (by omega)]
    obtain ⟨ys, e, hx⟩ := h.fr
    exact ⟨ys, e, fun j hj => by rw [ev _ (by unfold iF; omega) (by unfold iF; omega) (by unfold iF iP; omega)]; exact hx j hj⟩
  · rw [ev 2 (by omega) (by omega) (by omega)]
    obtain ⟨ys, e, hx⟩ := h.bk
    exact ⟨ys, e, fun j hj => by rw [ev _ (by unfold iB; omega) (by unfold iB; omega) (by unfold iB iP; omega)]; exact hx j hj⟩
  · rw [ev 3 (by omega) (by omega) (by omega)]; exact h.cs
  · obtain ⟨ys, e, hx⟩ := h.ls
    have hys : ys = xs := by rw [e4] at e; injection e with _ _ _ _ h5; exact h5.symm
    subst hys
    refine ⟨xs', by rw [e4']; simp, fun j y hy i u hu => ?_⟩
    have hi : i < 6 := (List.getElem?_eq_some_iff.1 hu).1
    by_cases hj : j < m.ls.length
    · have hy' : (m.ls ++ [x])[j]? = some y := hy
      rw [List.getElem?_append_left hj] at hy'
      rw [ev _ (by unfold iP; omega) (by unfold iP; omega) (by unfold iP; omega)] at hu
      rw [hxs, List.getElem?_append_left (by omega)]
      exact hx j y hy' i u hu
    · have hj2 : j = m.ls.length := by have := (List.getElem?_eq_some_iff.1 hy).1; simp at this; omega
      subst hj2
      have hy' : (m.ls ++ [x])[m.ls.length]? = some y := hy
      rw [List.getElem?_append_right (Nat.le_refl _), Nat.sub_self] at hy'
      injection hy' with hy'
      subst hy'
      rw [ep] at hu
      rw [hxs, List.getElem?_append_right (by omega), hxl, show m.ls.length * 6 + i - m.ls.length * 6 = i by omega]
      exact hu
  · rw [ev 5 (by omega) (by omega) (by omega)]; exact h.dr
  · rw [ev _ (by unfold iF; omega) (by unfold iF; omega) (by unfold iF iP; omega)]; exact h.fl j l hl
  · rw [ev _ (by unfold iB; omega) (by unfold iB; omega) (by unfold iB iP; omega)]; exact h.bl j l hl
  · by_cases hj : j < m.ls.length
    · have hy' : (m.ls ++ [x])[j]? = some y := hy
      rw [List.getElem?_append_left hj] at hy'
      rw [ev _ (by unfold iP; omega) (by unfold iP; omega) (by unfold iP; omega)]
      exact h.pl j y hy'
    · have hj2 : j = m.ls.length := by have := (List.getElem?_eq_some_iff.1 hy).1; simp at this; omega
      subst hj2
      have hy' : (m.ls ++ [x])[m.ls.length]? = some y := hy
      rw [List.getElem?_append_right (Nat.le_refl _), Nat.sub_self] at hy'
      injection hy' with hy'
      subst hy'
      rw [ep]
end

end Go.Proofs.Ytogaellhkjjeaaa
