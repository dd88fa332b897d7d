/-
  A machine of a call's own as it is built: needles more; a needle's list, whichever bed.
-/
import Derived.Test.YtogaellhkjjeaaaMv
namespace Go.Proofs.Ytogaellhkjjeaaa
set_option linter.unusedVariables false
set_option linter.unusedSimpArgs false
open Go.RowKit

section
variable {w w' w0 : World} {B g : Nat} {m : Mc} {S S0 : Nat → Spot}
/-- A needle more on a bed: its row, the bed's row that has grown; the box is told. -/
theorem MSt.addF {l : List Int} {v vl : Value} {xs xs' : List Value} (h : MSt w B g m S) (e1 : S 1 = ⟨27, 1, (S 1).v, m.fr.length, xs⟩) (hxs : xs' = xs ++ [v])
    (hsp : SpotsT w' B (putS (putS S (iF m.fr.length) (spI v l)) 1 ⟨27, 1, vl, m.fr.length + 1, xs'⟩)) :
    MSt (w'.setCell ⟨g, 2, none⟩ vl) B g { m with fr := m.fr ++ [l] } (putS (putS (putS S (iF m.fr.length) (spI v l)) 1 ⟨27, 1, vl, m.fr.length + 1, xs'⟩) 0 { S 0 with xs := (S 0).xs.set 2 vl }) := by
  have hp : iF m.fr.length ≠ 0 ∧ iF m.fr.length ≠ 1 ∧ iF m.fr.length ≠ 2 ∧ iF m.fr.length ≠ 3 ∧ iF m.fr.length ≠ 4 ∧ iF m.fr.length ≠ 5 := by unfold iF; omega
  have e0 : (putS (putS S (iF m.fr.length) (spI v l)) 1 ⟨27, 1, vl, m.fr.length + 1, xs'⟩) 0 = S 0 := by rw [putS_ne (by omega), putS_ne (by omega)]
  have hsp2 := hsp.setCell (p := 0) (g := g) (i := 2) (by rw [e0]; exact h.gbox) vl (by rw [e0, h.box]; simp)
  rw [e0] at hsp2
  generalize hS' : (putS (putS (putS S (iF m.fr.length) (spI v l)) 1 ⟨27, 1, vl, m.fr.length + 1, xs'⟩) 0 { S 0 with xs := (S 0).xs.set 2 vl }) = S' at hsp2
  have ev : ∀ j, j ≠ 0 → j ≠ 1 → j ≠ iF m.fr.length → S' j = S j := fun j h1 h2 h3 => by rw [← hS', putS_ne h1, putS_ne h2, putS_ne h3]
  have ez : S' 0 = { S 0 with xs := (S 0).xs.set 2 vl } := by rw [← hS', putS_same]
  have e1' : S' 1 = ⟨27, 1, vl, m.fr.length + 1, xs'⟩ := by rw [← hS', putS_ne (by omega), putS_same]
  have ep : S' (iF m.fr.length) = spI v l := by rw [← hS', putS_ne (by omega), putS_ne (by omega), putS_same]
  have hxl : xs.length = m.fr.length * 1 := by have := (h.owned e1).1; exact this
  have evo : S' 2 = S 2 := ev 2 (by omega) (by omega) (by unfold iF; omega)
  have evs : ∀ j, 3 ≤ j → j ≤ 5 → S' j = S j := fun j h1 h2 => ev j (by omega) (by omega) (by unfold iF; omega)
  have evO : ∀ k, S' (iB k) = S (iB k) := fun k => ev _ (by unfold iB; omega) (by unfold iB; omega) (by unfold iB iF; omega)
  have evP : ∀ k, S' (iP k) = S (iP k) := fun k => ev _ (by unfold iP; omega) (by unfold iP; omega) (by unfold iP iF; omega)
  have evI : ∀ k, k < m.fr.length → S' (iF k) = S (iF k) := fun k hk => ev _ (by unfold iF; omega) (by unfold iF; omega) (by unfold iF; omega)
  have hbox : S' 0 = ⟨29, 7, .slice (some ⟨g, 0, none⟩) 1 1, 1, [.int .i64 m.wd, .int .i64 m.rk, (S' 1).v, (S' 2).v, (S' 3).v, (S' 4).v, (S' 5).v]⟩ := by
    rw [ez, evs 3 (by omega) (by omega), evs 4 (by omega) (by omega), evs 5 (by omega) (by omega), e1', evo, h.box]
    rfl
  have hnew : ∃ ys, S' 1 = ⟨27, 1, (S' 1).v, (m.fr ++ [l]).length, ys⟩ ∧ ∀ k, k < (m.fr ++ [l]).length → ys[k]? = some (S' (iF k)).v := by
    obtain ⟨ys, e, hx⟩ := h.fr
    have hys : ys = xs := by rw [e1] at e; injection e with _ _ _ _ h5; exact h5.symm
    subst hys
    refine ⟨xs', by rw [e1']; simp, fun k hk => ?_⟩
    simp at hk
    by_cases hk1 : k < m.fr.length
    · rw [evI k hk1, hxs, List.getElem?_append_left (by omega)]
      exact hx k hk1
    · have hk2 : k = m.fr.length := by omega
      subst hk2
      rw [ep, hxs, List.getElem?_append_right (by omega), show m.fr.length - ys.length = 0 by omega]
      rfl
  have hlist : ∀ k x, (m.fr ++ [l])[k]? = some x → S' (iF k) = spI (S' (iF k)).v x := fun k x hx => by
    by_cases hk1 : k < m.fr.length
    · rw [List.getElem?_append_left hk1] at hx
      rw [evI k hk1]
      exact h.fl k x hx
    · have hk2 : k = m.fr.length := by have := (List.getElem?_eq_some_iff.1 hx).1; simp at this; omega
      subst hk2
      rw [List.getElem?_append_right (Nat.le_refl _), Nat.sub_self] at hx
      injection hx with hx
      subst hx
      rw [ep]
  have hoth : ∃ ys, S' 2 = ⟨27, 1, (S' 2).v, m.bk.length, ys⟩ ∧ ∀ k, k < m.bk.length → ys[k]? = some (S' (iB k)).v := by
    rw [evo]
    obtain ⟨ys, e, hx⟩ := h.bk
    exact ⟨ys, e, fun k hk => by rw [evO]; exact hx k hk⟩
  have hol : ∀ k x, m.bk[k]? = some x → S' (iB k) = spI (S' (iB k)).v x := fun k x hx => by rw [evO]; exact h.bl k x hx
  refine ⟨hsp2, hbox, hnew, hoth, ?_, ?_, ?_, hlist, hol, fun k x hx => by rw [evP]; exact h.pl k x hx⟩
  · rw [evs 3 (by omega) (by omega)]; exact h.cs
  · rw [evs 4 (by omega) (by omega)]
    obtain ⟨ys, e, hx⟩ := h.ls
    exact ⟨ys, e, fun k x hk => by rw [evP]; exact hx k x hk⟩
  · rw [evs 5 (by omega) (by omega)]; exact h.dr
/-- A needle more on a bed: its row, the bed's row that has grown; the box is told. -/
theorem MSt.addB {l : List Int} {v vl : Value} {xs xs' : List Value} (h : MSt w B g m S) (e1 : S 2 = ⟨27, 1, (S 2).v, m.bk.length, xs⟩) (hxs : xs' = xs ++ [v])
    (hsp : SpotsT w' B (putS (putS S (iB m.bk.length) (spI v l)) 2 ⟨27, 1, vl, m.bk.length + 1, xs'⟩)) :
    MSt (w'.setCell ⟨g, 3, none⟩ vl) B g { m with bk := m.bk ++ [l] } (putS (putS (putS S (iB m.bk.length) (spI v l)) 2 ⟨27, 1, vl, m.bk.length + 1, xs'⟩) 0 { S 0 with xs := (S 0).xs.set 3 vl }) := by
  have hp : iB m.bk.length ≠ 0 ∧ iB m.bk.length ≠ 1 ∧ iB m.bk.length ≠ 2 ∧ iB m.bk.length ≠ 3 ∧ iB m.bk.length ≠ 4 ∧ iB m.bk.length ≠ 5 := by unfold iB; omega
  have e0 : (putS (putS S (iB m.bk.length) (spI v l)) 2 ⟨27, 1, vl, m.bk.length + 1, xs'⟩) 0 = S 0 := by rw [putS_ne (by omega), putS_ne (by omega)]
  have hsp2 := hsp.setCell (p := 0) (g := g) (i := 3) (by rw [e0]; exact h.gbox) vl (by rw [e0, h.box]; simp)
  rw [e0] at hsp2
  generalize hS' : (putS (putS (putS S (iB m.bk.length) (spI v l)) 2 ⟨27, 1, vl, m.bk.length + 1, xs'⟩) 0 { S 0 with xs := (S 0).xs.set 3 vl }) = S' at hsp2
  have ev : ∀ j, j ≠ 0 → j ≠ 2 → j ≠ iB m.bk.length → S' j = S j := fun j h1 h2 h3 => by rw [← hS', putS_ne h1, putS_ne h2, putS_ne h3]
  have ez : S' 0 = { S 0 with xs := (S 0).xs.set 3 vl } := by rw [← hS', putS_same]
  have e1' : S' 2 = ⟨27, 1, vl, m.bk.length + 1, xs'⟩ := by rw [← hS', putS_ne (by omega), putS_same]
  have ep : S' (iB m.bk.length) = spI v l := by rw [← hS', putS_ne (by omega), putS_ne (by omega), putS_same]
  have hxl : xs.length = m.bk.length * 1 := by have := (h.owned e1).1; exact this
  have evo : S' 1 = S 1 := ev 1 (by omega) (by omega) (by unfold iB; omega)
  have evs : ∀ j, 3 ≤ j → j ≤ 5 → S' j = S j := fun j h1 h2 => ev j (by omega) (by omega) (by unfold iB; omega)
  have evO : ∀ k, S' (iF k) = S (iF k) := fun k => ev _ (by unfold iF; omega) (by unfold iF; omega) (by unfold iF iB; omega)
  have evP : ∀ k, S' (iP k) = S (iP k) := fun k => ev _ (by unfold iP; omega) (by unfold iP; omega) (by unfold iP iB; omega)
  have evI : ∀ k, k < m.bk.length → S' (iB k) = S (iB k) := fun k hk => ev _ (by unfold iB; omega) (by unfold iB; omega) (by unfold iB; omega)
  have hbox : S' 0 = ⟨29, 7, .slice (some ⟨g, 0, none⟩) 1 1, 1, [.int .i64 m.wd, .int .i64 m.rk, (S' 1).v, (S' 2).v, (S' 3).v, (S' 4).v, (S' 5).v]⟩ := by
    rw [ez, evs 3 (by omega) (by omega), evs 4 (by omega) (by omega), evs 5 (by omega) (by omega), e1', evo, h.box]
    rfl
  have hnew : ∃ ys, S' 2 = ⟨27, 1, (S' 2).v, (m.bk ++ [l]).length, ys⟩ ∧ ∀ k, k < (m.bk ++ [l]).length → ys[k]? = some (S' (iB k)).v := by
    obtain ⟨ys, e, hx⟩ := h.bk
    have hys : ys = xs := by rw [e1] at e; injection e with _ _ _ _ h5; exact h5.symm
    subst hys
    refine ⟨xs', by rw [e1']; simp, fun k hk => ?_⟩
    simp at hk
    by_cases hk1 : k < m.bk.length
    · rw [evI k hk1, hxs, List.getElem?_append_left (by omega)]
      exact hx k hk1
    · have hk2 : k = m.bk.length := by omega
      subst hk2
      rw [ep, hxs, List.getElem?_append_right (by omega), show m.bk.length - ys.length = 0 by omega]
      rfl
  have hlist : ∀ k x, (m.bk ++ [l])[k]? = some x → S' (iB k) = spI (S' (iB k)).v x := fun k x hx => by
    by_cases hk1 : k < m.bk.length
    · rw [List.getElem?_append_left hk1] at hx
      rw [evI k hk1]
      exact h.bl k x hx
    · have hk2 : k = m.bk.length := by have := (List.getElem?_eq_some_iff.1 hx).1; simp at this; omega
      subst hk2
      rw [List.getElem?_append_right (Nat.le_refl _), Nat.sub_self] at hx
      injection hx with hx
      subst hx
      rw [ep]
  have hoth : ∃ ys, S' 1 = ⟨27, 1, (S' 1).v, m.fr.length, ys⟩ ∧ ∀ k, k < m.fr.length → ys[k]? = some (S' (iF k)).v := by
    rw [evo]
    obtain ⟨ys, e, hx⟩ := h.fr
    exact ⟨ys, e, fun k hk => by rw [evO]; exact hx k hk⟩
  have hol : ∀ k x, m.fr[k]? = some x → S' (iF k) = spI (S' (iF k)).v x := fun k x hx => by rw [evO]; exact h.fl k x hx
  refine ⟨hsp2, hbox, hoth, hnew, ?_, ?_, ?_, hol, hlist, fun k x hx => by rw [evP]; exact h.pl k x hx⟩
  · rw [evs 3 (by omega) (by omega)]; exact h.cs
  · rw [evs 4 (by omega) (by omega)]
    obtain ⟨ys, e, hx⟩ := h.ls
    exact ⟨ys, e, fun k x hk => by rw [evP]; exact hx k x hk⟩
  · rw [evs 5 (by omega) (by omega)]; exact h.dr

/-- A fresh row may stand for any of the rows. -/
theorem SpotsT.putX (h : SpotsT w B S) (p : Nat) {v : Value} {l : List Int} (hown : w.ownsRow B 2 1 v l.length (vI l)) (hnew : ∀ k, v.ownBlock = some k → ¬ blk S k) : SpotsT w B (putS S p (spI v l)) :=
  h.put p _ hown fun k hk => .inr fun j _ hj => hnew k hk ⟨j, hj⟩
/-- The header of a bed. -/
def bedV (S : Nat → Spot) (b : Int) : Value := if b = 2 then (S 2).v else (S 1).v
/-- A needle's header stands in its bed's row, and may be written. -/
theorem MSt.nd (h : MSt w B g m S) {n : Int × Int} (hn : ndIn m n) : ∃ b c L, bedV S n.1 = .slice (some ⟨b, 0, none⟩) L c ∧ n.2 < (L : Int) ∧ blk S b ∧ b < w.heap.size ∧ B ≤ b ∧ w.cell? ⟨b, n.2.toNat, none⟩ = some (S (iN n)).v ∧ (∀ o, w.frozen? ⟨b, o, none⟩ = false) ∧ S (iN n) = spI (S (iN n)).v (onL m n) ∧
    ∀ (w' : World) (l' : List Int) (v' : Value), SpotsT w' B (putS S (iN n) (spI v' l')) → ∃ S', MSt (w'.setCell ⟨b, n.2.toNat, none⟩ v') B g (setL m n l') S' ∧ ∀ w0 S0, Mv w0 S0 w' (putS S (iN n) (spI v' l')) → Mv w0 S0 (w'.setCell ⟨b, n.2.toNat, none⟩ v') S' := by
  obtain ⟨h1, h2, h3, h4⟩ := hn
  by_cases e : n.1 = 2
  · obtain ⟨b, c, hv, hB, hb, hc, ho⟩ := h.gB (by omega)
    obtain ⟨g1, g2, g3⟩ := h.listB h4 ho
    have ei : iN n = iB n.2.toNat := by unfold iN; rw [if_pos e]
    have eo : onL m n = m.bk[n.2.toNat] := by unfold onL; rw [if_pos e, List.getD_eq_getElem?_getD, List.getElem?_eq_getElem h4]; rfl
    refine ⟨b, c, m.bk.length, by unfold bedV; rw [if_pos e]; exact hv, by omega, ⟨2, ho⟩, hb, hB, by rw [ei]; exact g1, g2, by rw [ei, eo]; exact g3, fun w' l' v' hsp => ?_⟩
    rw [ei] at hsp
    refine ⟨_, by unfold setL; rw [if_pos e]; exact h.setB h4 ho hsp, fun w0 S0 hm => ?_⟩
    rw [ei] at hm
    have e2 : putS S (iB n.2.toNat) (spI v' l') 2 = S 2 := putS_ne (fun e => by unfold iB at e; omega)
    have := hm.setCell (p := 2) (g := b) (i := n.2.toNat) (by rw [e2]; exact ho) v' ((S 2).xs.set n.2.toNat v')
    rw [e2] at this
    exact this
  · obtain ⟨b, c, hv, hB, hb, hc, ho⟩ := h.gF (by omega)
    obtain ⟨g1, g2, g3⟩ := h.listF h3 ho
    have ei : iN n = iF n.2.toNat := by unfold iN; rw [if_neg e]
    have eo : onL m n = m.fr[n.2.toNat] := by unfold onL; rw [if_neg e, List.getD_eq_getElem?_getD, List.getElem?_eq_getElem h3]; rfl
    refine ⟨b, c, m.fr.length, by unfold bedV; rw [if_neg e]; exact hv, by omega, ⟨1, ho⟩, hb, hB, by rw [ei]; exact g1, g2, by rw [ei, eo]; exact g3, fun w' l' v' hsp => ?_⟩
    rw [ei] at hsp
    refine ⟨_, by unfold setL; rw [if_neg e]; exact h.setF h3 ho hsp, fun w0 S0 hm => ?_⟩
    rw [ei] at hm
    have e2 : putS S (iF n.2.toNat) (spI v' l') 1 = S 1 := putS_ne (fun e => by unfold iF at e; omega)
    have := hm.setCell (p := 1) (g := b) (i := n.2.toNat) (by rw [e2]; exact ho) v' ((S 1).xs.set n.2.toNat v')
    rw [e2] at this
    exact this
end

end Go.Proofs.Ytogaellhkjjeaaa
