/-
  Texts joined: Ms4, RdMo, DrE, Bop, Onl, PsD, PsE.
-/
import Derived.Test.YtccdnmafakaleaaDoorPk4
import Derived.Test.YtccdnmafakaleaaDoorPk6
import Derived.Test.YtccdnmafakaleaaDoorPk7
import Derived.Deep.CutBlock
import Derived.Test.YtccdnmafakaleaaDoorMcRes
import Derived.Test.YtccdnmafakaleaaDoorOwn
import Derived.Test.YtccdnmafakaleaaDoorMark
import Derived.Deep.CutRange
import Derived.Deep.DeepCutAuto
import Derived.Deep.RegionHeld3
/-
  More that is written into a machine of a call's own: its width, the parents of a loop; and its value.
-/
namespace Go.Proofs.YtccdnmafakaleaaDoor
set_option linter.unusedVariables false
set_option linter.unusedSimpArgs false
open Go.RowKit

section
variable {w w' : World} {B g : Nat} {m : Mc} {S : Nat → Spot}
/-- The width is set. -/
theorem MSt.setWd {r : Int} (h : MSt w B g m S) : MSt (w.setCell ⟨g, 0, none⟩ (.int .i64 r)) B g { m with wd := r } (putS S 0 { S 0 with xs := (S 0).xs.set 0 (.int .i64 r) }) := by
  have hsp := h.sp.setCell (p := 0) (g := g) (i := 0) h.gbox (.int .i64 r) (by rw [h.box]; simp)
  have ev : ∀ j, j ≠ 0 → (putS S 0 { S 0 with xs := (S 0).xs.set 0 (.int .i64 r) }) j = S j := fun j h1 => putS_ne h1
  refine ⟨hsp, ?_, ?_, ?_, ?_, ?_, ?_, fun j l hl => ?_, fun j l hl => ?_, fun j x hx => ?_⟩
  · rw [putS_same, ev 1 (by omega), ev 2 (by omega), ev 3 (by omega), ev 4 (by omega), ev 5 (by omega), h.box]
    rfl
  · rw [ev 1 (by omega)]
    obtain ⟨xs, e, hx⟩ := h.fr
    exact ⟨xs, e, fun j hj => by rw [ev _ (by unfold iF; omega)]; exact hx j hj⟩
  · rw [ev 2 (by omega)]
    obtain ⟨xs, e, hx⟩ := h.bk
    exact ⟨xs, e, fun j hj => by rw [ev _ (by unfold iB; omega)]; exact hx j hj⟩
  · rw [ev 3 (by omega)]; exact h.cs
  · rw [ev 4 (by omega)]
    obtain ⟨xs, e, hx⟩ := h.ls
    exact ⟨xs, e, fun j x hj => by rw [ev _ (by unfold iP; omega)]; exact hx j x hj⟩
  · rw [ev 5 (by omega)]; exact h.dr
  · rw [ev _ (by unfold iF; omega)]; exact h.fl j l hl
  · rw [ev _ (by unfold iB; omega)]; exact h.bl j l hl
  · rw [ev _ (by unfold iP; omega)]; exact h.pl j x hx
/-- A loop is given other parents. -/
theorem MSt.setP {k b : Nat} {x : Inf} {l' : List Int} {v' : Value} (h : MSt w B g m S) (hx : m.ls[k]? = some x) (hb : (S 4).v.ownBlock = some b) (hsp : SpotsT w' B (putS S (iP k) (spI v' l'))) :
    MSt (w'.setCell ⟨b, k * 6 + 5, none⟩ v') B g { m with ls := m.ls.set k { x with ps := l' } } (putS (putS S (iP k) (spI v' l')) 4 { S 4 with xs := (S 4).xs.set (k * 6 + 5) v' }) := by
  have hk : k < m.ls.length := (List.getElem?_eq_some_iff.1 hx).1
  have hne : iP k ≠ 4 := by unfold iP; omega
  have e1 : putS S (iP k) (spI v' l') 4 = S 4 := putS_ne (fun e => hne e.symm)
  have hsz : k * 6 + 5 < (S 4).n * (S 4).sz := by obtain ⟨xs, e, _⟩ := h.ls; rw [e]; show k * 6 + 5 < m.ls.length * 6; omega
  have hsp2 := hsp.setCell (p := 4) (g := b) (i := k * 6 + 5) (by rw [e1]; exact hb) v' (by rw [e1]; exact hsz)
  rw [e1] at hsp2
  have ev : ∀ j, j ≠ 4 → j ≠ iP k → (putS (putS S (iP k) (spI v' l')) 4 { S 4 with xs := (S 4).xs.set (k * 6 + 5) v' }) j = S j := fun j h1 h2 => by rw [putS_ne h1, putS_ne h2]
  have ek : (putS (putS S (iP k) (spI v' l')) 4 { S 4 with xs := (S 4).xs.set (k * 6 + 5) v' }) (iP k) = spI v' l' := by rw [putS_ne hne, putS_same]
  have e4' : (putS (putS S (iP k) (spI v' l')) 4 { S 4 with xs := (S 4).xs.set (k * 6 + 5) v' }) 4 = { S 4 with xs := (S 4).xs.set (k * 6 + 5) v' } := putS_same _ _ _
  refine ⟨hsp2, ?_, ?_, ?_, ?_, ?_, ?_, fun j l hl => ?_, fun j l hl => ?_, fun j y hy => ?_⟩
  · rw [ev 0 (by omega) (by unfold iP; omega), e4', ev 1 (by omega) (by unfold iP; omega), ev 2 (by omega) (by unfold iP; omega), ev 3 (by omega) (by unfold iP; omega), ev 5 (by omega) (by unfold iP; omega)]
    exact h.box
  · obtain ⟨xs, e, hx⟩ := h.fr
    rw [ev 1 (by omega) (by unfold iP; omega)]
    exact ⟨xs, e, fun j hj => by rw [ev _ (by unfold iF; omega) (by unfold iF iP; omega)]; exact hx j hj⟩
  · obtain ⟨xs, e, hx⟩ := h.bk
    rw [ev 2 (by omega) (by unfold iP; omega)]
    exact ⟨xs, e, fun j hj => by rw [ev _ (by unfold iB; omega) (by unfold iB iP; omega)]; exact hx j hj⟩
  · rw [ev 3 (by omega) (by unfold iP; omega)]; exact h.cs
  · obtain ⟨xs, e, hxx⟩ := h.ls
    have hxs : (S 4).xs = xs := by rw [e]
    have hxl : (S 4).xs.length = m.ls.length * 6 := by have := (h.owned e).1; rw [hxs]; exact this
    refine ⟨(S 4).xs.set (k * 6 + 5) v', ?_, fun j y hy i u hu => ?_⟩
    · rw [e4']
      show (⟨(S 4).E, (S 4).sz, (S 4).v, (S 4).n, _⟩ : Spot) = ⟨_, _, (S 4).v, (m.ls.set k _).length, _⟩
      rw [List.length_set]
      have h1 : (S 4).E = 78 := by rw [e]
      have h2 : (S 4).sz = 6 := by rw [e]
      have h3 : (S 4).n = m.ls.length := by rw [e]
      rw [h1, h2, h3]
    · have hi : i < 6 := (List.getElem?_eq_some_iff.1 hu).1
      by_cases hjk : j = k
      · subst hjk
        have hy' : (m.ls.set j { x with ps := l' })[j]? = some y := hy
        rw [List.getElem?_set_self hk] at hy'
        injection hy' with hy'
        subst hy'
        rw [ek] at hu
        by_cases h5 : i = 5
        · subst h5
          rw [List.getElem?_set_self (by omega)]
          exact hu
        · rw [List.getElem?_set_ne (by omega), hxs]
          refine hxx j x hx i u ?_
          rcases i with _ | _ | _ | _ | _ | _ | i
          all_goals first | exact hu | omega
      · have hy' : (m.ls.set k { x with ps := l' })[j]? = some y := hy
        rw [List.getElem?_set_ne (fun e => hjk e.symm)] at hy'
        rw [ev _ (by unfold iP; omega) (by unfold iP; omega)] at hu
        rw [List.getElem?_set_ne (by omega), hxs]
        exact hxx j y hy' i u hu
  · rw [ev 5 (by omega) (by unfold iP; omega)]; exact h.dr
  · rw [ev _ (by unfold iF; omega) (by unfold iF iP; omega)]; exact h.fl j l hl
  · rw [ev _ (by unfold iB; omega) (by unfold iB iP; omega)]; exact h.bl j l hl
  · by_cases hjk : j = k
    · subst hjk
      have hy' : (m.ls.set j { x with ps := l' })[j]? = some y := hy
      rw [List.getElem?_set_self hk] at hy'
      injection hy' with hy'
      subst hy'
      rw [ek]
    · have hy' : (m.ls.set k { x with ps := l' })[j]? = some y := hy
      rw [List.getElem?_set_ne (fun e => hjk e.symm)] at hy'
      rw [ev _ (by unfold iP; omega) (by unfold iP; omega)]
      exact h.pl j y hy'
/-- Its value. -/
theorem MSt.val (h : MSt w B g m S) : RdM w w.heap.size (.agg (mcV m.wd m.rk (S 1).v (S 2).v (S 3).v (S 4).v (S 5).v)) m := by
  refine ⟨_, _, _, _, _, rfl, ?_, ?_, ?_, ?_, (spI_rd (h.sp.own 5) h.dr).1, (spI_rd (h.sp.own 5) h.dr).2⟩
  · obtain ⟨xs, e, hx⟩ := h.fr
    refine RdN.of_row (h.owned e) (fun k x hk => ⟨[(S (iF k)).v], rfl, fun j u hu => ?_, _, rfl, spI_rd (h.sp.own _) (h.fl k x hk)⟩)
    obtain rfl : j = 0 := by have := (List.getElem?_eq_some_iff.1 hu).1; simp at this; omega
    rw [Nat.mul_one, Nat.add_zero, hx k (List.getElem?_eq_some_iff.1 hk).1]
    exact hu
  · obtain ⟨xs, e, hx⟩ := h.bk
    refine RdN.of_row (h.owned e) (fun k x hk => ⟨[(S (iB k)).v], rfl, fun j u hu => ?_, _, rfl, spI_rd (h.sp.own _) (h.bl k x hk)⟩)
    obtain rfl : j = 0 := by have := (List.getElem?_eq_some_iff.1 hu).1; simp at this; omega
    rw [Nat.mul_one, Nat.add_zero, hx k (List.getElem?_eq_some_iff.1 hk).1]
    exact hu
  · exact RdS.of_own Car.len (OwC.of_own (h.owned h.cs))
  · obtain ⟨xs, e, hx⟩ := h.ls
    exact RdN.of_row (h.owned e) (fun k x hk => ⟨_, rfl, hx k x hk, _, rfl, spI_rd (h.sp.own _) (h.pl k x hk)⟩)
end
/-- A valid machine is small. -/
structure SmM (m : Mc) : Prop where
  fr : m.fr.length ≤ 1000
  bk : m.bk.length ≤ 1000
  cs : m.cs.length ≤ 1000
  ls : m.ls.length ≤ 1000
  dr : m.dr.length ≤ 1000
  frs : ∀ x ∈ m.fr, x.length ≤ 1000
  bks : ∀ x ∈ m.bk, x.length ≤ 1000
  lss : ∀ x ∈ m.ls, x.ps.length ≤ 1000
theorem SmM.fit {m : Mc} (h : SmM m) : FitM m :=
  ⟨by have := h.fr; omega, by have := h.bk; omega, by have := h.cs; omega, by have := h.ls; omega, by have := h.dr; omega, fun x hx => by have := h.frs x hx; omega, fun x hx => by have := h.bks x hx; omega, fun x hx => by have := h.lss x hx; omega⟩

end Go.Proofs.YtccdnmafakaleaaDoor

/-
  Machines by value whose rows lie from a block on.
-/
namespace Go.Proofs.YtccdnmafakaleaaDoor
set_option linter.unusedVariables false
set_option linter.unusedSimpArgs false
open Go.RowKit

theorem OkP.small {m : Mc} (h : OkP m) : m.fr.length ≤ 24 ∧ m.bk.length ≤ 24 ∧ m.cs.length = 4 ∧ m.ls.length ≤ 300 ∧ m.dr.length ≤ 300 ∧ (∀ x ∈ m.fr, x.length ≤ 4) ∧ (∀ x ∈ m.bk, x.length ≤ 4) ∧ (∀ x ∈ m.ls, x.ps.length ≤ 4) := by
  have h1 := h.wd
  have h2 := h.fr
  have h3 := h.bk
  refine ⟨by omega, by omega, h.cs, h.ls, h.drlen, h.f4, h.b4, fun x hx => ?_⟩
  obtain ⟨j, hj⟩ := List.mem_iff_getElem?.1 hx
  exact (ok_loop (okM_iff.2 h) hj).2
theorem SmM.of {m : Mc} (h : OkP m) : SmM m := by
  obtain ⟨h1, h2, h3, h4, h5, h6, h7, h8⟩ := h.small
  exact ⟨by omega, by omega, by omega, by omega, by omega, fun x hx => by have := h6 x hx; omega, fun x hx => by have := h7 x hx; omega, fun x hx => by have := h8 x hx; omega⟩
/-- A machine whose rows lie from block B on. -/
def RdMo (w : World) (B : Nat) (v : Value) (m : Mc) : Prop := ∀ wy : World, (∀ q, B ≤ q → q < w.heap.size → wy.heap[q]? = w.heap[q]?) → w.heap.size ≤ wy.heap.size → RdM wy wy.heap.size v m
theorem RdMo.rd {w : World} {B : Nat} {v : Value} {m : Mc} (h : RdMo w B v m) : RdM w w.heap.size v m := h w (fun _ _ _ => rfl) (Nat.le_refl _)
theorem RdMo.keep {w w' : World} {B B' : Nat} {v : Value} {m : Mc} (h : RdMo w B v m) (hB : B' ≤ B) (hk : ∀ q, B ≤ q → q < w.heap.size → w'.heap[q]? = w.heap[q]?) (hz : w.heap.size ≤ w'.heap.size) : RdMo w' B' v m :=
  fun wy h1 h2 => h wy (fun q hq hl => (h1 q (by omega) (by omega)).trans (hk q hq hl)) (by omega)
theorem RdMo.below {w w' : World} {B B' : Nat} {v : Value} {m : Mc} (h : RdMo w B v m) (hB : B' ≤ B) (hb : Below w.heap.size w w') : RdMo w' B' v m := h.keep hB (fun q _ hl => hb.block q hl) hb.size
theorem RdMo.only {w w' : World} {B B' gs : Nat} {v : Value} {m : Mc} (h : RdMo w B v m) (hB : B' ≤ B) (ho : Only gs (gs + 1) w w') (hg : gs < B) : RdMo w' B' v m := h.keep hB (fun q hq hl => ho.block q hl (by omega)) ho.size
theorem MSt.rdo {w : World} {B g : Nat} {m : Mc} {S : Nat → Spot} (h : MSt w B g m S) : RdMo w B (.agg (mcV m.wd m.rk (S 1).v (S 2).v (S 3).v (S 4).v (S 5).v)) m :=
  fun wy hk hz => (h.keep (fun j q hq => hk q (h.sp.lt hq).1 (h.sp.lt hq).2)).val

end Go.Proofs.YtccdnmafakaleaaDoor

/-
  A drawn machine that is often not valid: l07Bent.
-/
namespace Go.Proofs.YtccdnmafakaleaaDoor
set_option linter.unusedVariables false
set_option linter.unusedSimpArgs false
open Go.RowKit

theorem set_mem' {α : Type} {L : List α} {k : Nat} {l x : α} (h : x ∈ L.set k l) : x = l ∨ x ∈ L := by
  rcases List.mem_or_eq_of_mem_set h with h | h
  · exact .inr h
  · exact .inl h
theorem SmM.addF {m : Mc} (h : OkP m) (l : List Int) (x : Int) (hl : l.length ≤ 4) : SmM { m with fr := m.fr.set 0 (l ++ [x]) } := by
  obtain ⟨h1, h2, h3, h4, h5, h6, h7, h8⟩ := h.small
  refine ⟨by show (m.fr.set 0 _).length ≤ 1000; rw [List.length_set]; omega, by show m.bk.length ≤ 1000; omega, by show m.cs.length ≤ 1000; omega, by show m.ls.length ≤ 1000; omega, by show m.dr.length ≤ 1000; omega, fun y hy => ?_, fun y hy => by have := h7 y hy; omega, fun y hy => by have := h8 y hy; omega⟩
  rcases set_mem' hy with rfl | hy
  · simp; omega
  · have := h6 y hy; omega
theorem SmM.addD {m : Mc} (h : OkP m) (x : Int) : SmM { m with dr := m.dr ++ [x] } := by
  obtain ⟨h1, h2, h3, h4, h5, h6, h7, h8⟩ := h.small
  exact ⟨by show m.fr.length ≤ 1000; omega, by show m.bk.length ≤ 1000; omega, by show m.cs.length ≤ 1000; omega, by show m.ls.length ≤ 1000; omega, by show (m.dr ++ [x]).length ≤ 1000; simp; omega, fun x hx => by have := h6 x hx; omega, fun x hx => by have := h7 x hx; omega, fun x hx => by have := h8 x hx; omega⟩
theorem SmM.addP {m : Mc} (h : OkP m) (y : Inf) (x : Int) (hl : y.ps.length ≤ 4) : SmM { m with ls := m.ls.set 0 { y with ps := y.ps ++ [x] } } := by
  obtain ⟨h1, h2, h3, h4, h5, h6, h7, h8⟩ := h.small
  refine ⟨by show m.fr.length ≤ 1000; omega, by show m.bk.length ≤ 1000; omega, by show m.cs.length ≤ 1000; omega, by show (m.ls.set 0 _).length ≤ 1000; rw [List.length_set]; omega, by show m.dr.length ≤ 1000; omega, fun y hy => by have := h6 y hy; omega, fun y hy => by have := h7 y hy; omega, fun z hz => ?_⟩
  rcases set_mem' hz with rfl | hz
  · simp; omega
  · have := h8 z hz; omega
theorem SmM.setCs {m : Mc} (h : OkP m) (c : Car) : SmM { m with cs := m.cs.set 0 c } := by
  obtain ⟨h1, h2, h3, h4, h5, h6, h7, h8⟩ := h.small
  exact ⟨by show m.fr.length ≤ 1000; omega, by show m.bk.length ≤ 1000; omega, by show (m.cs.set 0 c).length ≤ 1000; rw [List.length_set]; omega, by show m.ls.length ≤ 1000; omega, by show m.dr.length ≤ 1000; omega, fun x hx => by have := h6 x hx; omega, fun x hx => by have := h7 x hx; omega, fun x hx => by have := h8 x hx; omega⟩
theorem SmM.tail {m : Mc} (h : OkP m) : SmM { m with fr := m.fr.tail } := by
  obtain ⟨h1, h2, h3, h4, h5, h6, h7, h8⟩ := h.small
  exact ⟨by show m.fr.tail.length ≤ 1000; rw [List.length_tail]; omega, by show m.bk.length ≤ 1000; omega, by show m.cs.length ≤ 1000; omega, by show m.ls.length ≤ 1000; omega, by show m.dr.length ≤ 1000; omega, fun x hx => by have := h6 x (List.mem_of_mem_tail hx); omega, fun x hx => by have := h7 x hx; omega, fun x hx => by have := h8 x hx; omega⟩
theorem SmM.rk {m : Mc} (h : SmM m) (r : Int) : SmM { m with rk := r } := ⟨h.fr, h.bk, h.cs, h.ls, h.dr, h.frs, h.bks, h.lss⟩
theorem SmM.wd {m : Mc} (h : SmM m) (r : Int) : SmM { m with wd := r } := ⟨h.fr, h.bk, h.cs, h.ls, h.dr, h.frs, h.bks, h.lss⟩
/-- A reading without its first element. -/
theorem RdN.tail_ {α : Type} {R : World → Nat → List Value → α → Prop} {sz : Nat} {w : World} {B b o n c : Nat} {l : List α} (h : RdN R sz w B (.slice (some ⟨b, o, none⟩) n c) l) (hn : 0 < n) : RdN R sz w B (.slice (some ⟨b, o + 1 * sz, none⟩) (n - 1) (c - 1)) l.tail := by
  obtain ⟨A, n', c', e, h1, h2, h3⟩ := h
  injection e with e1 e2 e3
  subst e1 e2 e3
  refine ⟨_, _, _, rfl, by omega, (show l.tail.length = n - 1 by rw [List.length_tail, h2.out]), fun k hk => ?_⟩
  obtain ⟨b', off, x, us, g1, g2, g3, g4, g5, g6⟩ := h3 (k + 1) (by omega)
  injection g1 with g1
  injection g1 with g1 g1' _
  subst g1 g1'
  refine ⟨b, o + 1 * sz, x, us, rfl, g2, by rw [List.getElem?_tail]; exact g3, g4, fun j u hu => ?_, g6⟩
  rw [show o + 1 * sz + k * sz + j = o + (k + 1) * sz + j by rw [Nat.add_mul]; omega]
  exact g5 j u hu
/-- A machine that was drawn. -/
def BentM (w : World) (gs : Nat) (K : Int) (e : Ending) (w' : World) : Prop := ∃ m v, e = .returned v ∧ RdMo w' w.heap.size v m ∧ SmM m ∧ Src w' gs K ∧ Only gs (gs + 1) w w'
theorem Only.below_ {lo hi : Nat} {a w w' : World} (h : Only lo hi a w) (hb : Below a.heap.size w w') : Only lo hi a w' :=
  ⟨hb.os.trans h.os, hb.tape.trans h.tape, hb.output.trans h.output, Nat.le_trans h.size hb.size, fun k hk hk2 => (hb.block k hk).trans (h.block k hk hk2)⟩
/-- The source, what has turned, and the result's box. -/
structure DX (w0 : World) (gs : Nat) (K : Int) (wx : World) : Prop where
  src : Src wx gs K
  only : Only gs (gs + 1) w0 wx
  res : Bx wx w0.heap.size zeroM
theorem DX.below {w0 wx wy : World} {gs : Nat} {K : Int} (h : DX w0 gs K wx) (hg : gs < w0.heap.size) (hb : Below (w0.heap.size + 1) wx wy) : DX w0 gs K wy :=
  ⟨h.src.below hb (by omega), h.only.below_ (hb.mono (by omega)), h.res.below hb (by omega)⟩
theorem DX.turn {w0 wx wy : World} {gs : Nat} {K K' : Int} (h : DX w0 gs K wx) (hg : gs < w0.heap.size) (hs : Src wy gs K') (ho : Only gs (gs + 1) wx wy) : DX w0 gs K' wy := ⟨hs, h.only.trans ho, h.res.only ho (by omega)⟩
theorem DX.set {w0 wx : World} {gs b : Nat} {K : Int} (h : DX w0 gs K wx) (hg : gs < w0.heap.size) (hb : w0.heap.size < b) (i : Nat) (u : Value) : DX w0 gs K (wx.setCell ⟨b, i, none⟩ u) := ⟨h.src.setNew (by omega) _ _, h.only.setNew (by omega) _ _, h.res.far (by omega) _ _⟩
theorem DX.alloc {w0 wx : World} {gs : Nat} {K : Int} (h : DX w0 gs K wx) (o : Obj) : DX w0 gs K (wx.alloc o) := ⟨h.src.alloc _, h.only.alloc _, h.res.alloc _⟩
theorem DX.drew {w0 wx : World} {gs : Nat} {K : Int} (h : DX w0 gs K wx) : DX w0 gs K wx.drew := ⟨h.src, only_drew h.only, h.res⟩
theorem own_spI {w : World} {B : Nat} {v : Value} {l : List Int} {x : Int} (h : w.ownsRow B 2 1 v (l.length + 1) (vI l ++ [.int .i64 x])) : (spI v (l ++ [x])).owned w B := by
  show w.ownsRow B 2 1 v (l ++ [x]).length (vI (l ++ [x]))
  rw [List.length_append, vI_snoc]
  exact h
theorem reads_one (w : World) (x : Int) (T : TypeId) : Reads (w.alloc (.cells #[.int .i64 x] T)) (w.heap.size + 1) 1 (some ⟨w.heap.size, 0, none⟩) 1 [.int .i64 x] :=
  ⟨rfl, fun _ => ⟨_, rfl, Nat.lt_succ_self _, new_cells' T [.int .i64 x] rfl⟩⟩
/-- Half way: the machine stands in box gm. -/
structure BSt (w0 : World) (gs gm B : Nat) (K : Int) (wd rk : Int) (F G C L D : Value) (m : Mc) (wx : World) : Prop where
  src : Src wx gs K
  only : Only gs (gs + 1) w0 wx
  res : Bx wx w0.heap.size zeroM
  box : CellsAt wx gm 0 [.int .i64 wd, .int .i64 rk, F, G, C, L, D]
  sm : SmM m
  rd : RdMo wx B (.agg (mcV wd rk F G C L D)) m
  lt : w0.heap.size < B ∧ w0.heap.size ≠ gm
theorem BSt.of {w0 wx : World} {gs gm B : Nat} {K : Int} {m : Mc} {S : Nat → Spot} (hs : Src wx gs K) (ho : Only gs (gs + 1) w0 wx) (hr : Bx wx w0.heap.size zeroM) (hM : MSt wx B gm m S) (hsm : SmM m) (hlt : w0.heap.size < B) : BSt w0 gs gm B K m.wd m.rk (S 1).v (S 2).v (S 3).v (S 4).v (S 5).v m wx :=
  ⟨hs, ho, hr, hM.cells, hsm, fun wy hk hz => (hM.keep (fun j q hq => hk q (hM.sp.lt hq).1 (hM.sp.lt hq).2)).val, hlt, by have := hM.size.2; omega⟩
def BCut (w0 : World) (gs gm B : Nat) (K : Int) (wx : World) : Prop :=
  ∃ wd rk A1 n1 c1 A2 n2 c2 A3 n3 c3 A4 n4 c4 A5 n5 c5 m, BSt w0 gs gm B K wd rk (.slice A1 n1 c1) (.slice A2 n2 c2) (.slice A3 n3 c3) (.slice A4 n4 c4) (.slice A5 n5 c5) m wx
theorem BCut.of {w0 wx : World} {gs gm B : Nat} {K K' : Int} {m : Mc} {S : Nat → Spot} (hd : DX w0 gs K' wx) (h1 : K' ≤ K) (h2 : K ≤ 1000000000) (hM : MSt wx B gm m S) (hsm : SmM m) (hlt : w0.heap.size < B) : BCut w0 gs gm B K wx := by
  have h := BSt.of (hd.src.more h1 h2) hd.only hd.res hM hsm hlt
  obtain ⟨A1, c1, A2, c2, A3, c3, A4, c4, A5, c5, q1, q2, q3, q4, q5⟩ := hM.slices
  rw [q1, q2, q3, q4, q5] at h
  exact ⟨_, _, _, _, _, _, _, _, _, _, _, _, _, _, _, _, _, _, h⟩
theorem BCut.tail {w0 wx : World} {gs gm B b n c : Nat} {K K' : Int} {m : Mc} {S : Nat → Spot} (hs : Src wx gs K') (h1 : K' ≤ K) (h2 : K ≤ 1000000000) (ho : Only gs (gs + 1) w0 wx) (hr : Bx wx w0.heap.size zeroM) (hM : MSt wx B gm m S) (hsm : SmM { m with fr := m.fr.tail }) (hlt : w0.heap.size < B) (hgs : gs < w0.heap.size)
    (hv : (S 1).v = .slice (some ⟨b, 0, none⟩) n c) (hn : 0 < n) : BCut w0 gs gm B K (wx.setCell ⟨gm, 2, none⟩ (.slice (some ⟨b, 0 + 1 * 1, none⟩) (n - 1) (c - 1))) := by
  obtain ⟨A1, c1, A2, c2, A3, c3, A4, c4, A5, c5, q1, q2, q3, q4, q5⟩ := hM.slices
  have hgm := hM.size
  have hbx := hM.sp.own 0
  rw [hM.box] at hbx
  have hbx : wx.ownsRow B 33 7 (.slice (some ⟨gm, 0, none⟩) 1 1) 1 [.int .i64 m.wd, .int .i64 m.rk, (S 1).v, (S 2).v, (S 3).v, (S 4).v, (S 5).v] := hbx
  have hbx2 := own_setx (i := 2) (.slice (some ⟨b, 0 + 1 * 1, none⟩) (n - 1) (c - 1)) hbx (by omega)
  have hS0 : ∀ j q, (S j).v.ownBlock = some q → j ≠ 0 → q ≠ gm := fun j q hq hj e => hM.sp.dis (Ne.symm hj) hM.gbox (by rw [hq, e])
  have key : ∀ wy : World, (∀ q, B ≤ q → q < wx.heap.size → q ≠ gm → wy.heap[q]? = wx.heap[q]?) → wx.heap.size ≤ wy.heap.size → RdM wy wy.heap.size (.agg (mcV m.wd m.rk (.slice (some ⟨b, 0 + 1 * 1, none⟩) (n - 1) (c - 1)) (S 2).v (S 3).v (S 4).v (S 5).v)) { m with fr := m.fr.tail } := fun wy hk hz => by
    have hro : ∀ j, j ≠ 0 → (S j).owned wy B := fun j hj => own_keep (hM.sp.own j) (fun q hq => hk q (hM.sp.lt hq).1 (hM.sp.lt hq).2 (hS0 j q hq hj))
    have hrd : ∀ j l, j ≠ 0 → S j = spI (S j).v l → RdI wy wy.heap.size (S j).v l ∧ CapOk (S j).v := fun j l hj e => spI_rd (hro j hj) e
    have how : ∀ {j : Nat} {E : TypeId} {sz n : Nat} {xs : List Value}, j ≠ 0 → S j = ⟨E, sz, (S j).v, n, xs⟩ → wy.ownsRow B E sz (S j).v n xs := fun {j E sz n xs} hj e => by
      have h1 := hro j hj
      rw [e] at h1
      exact h1
    refine ⟨_, _, _, _, _, rfl, ?_, ?_, ?_, ?_, (hrd 5 _ (by omega) hM.dr).1, (hrd 5 _ (by omega) hM.dr).2⟩
    · obtain ⟨xs, e, hx⟩ := hM.fr
      have h9 : RdLL wy wy.heap.size (S 1).v m.fr := RdN.of_row (how (by omega) e) (fun k x hk => ⟨[(S (iF k)).v], rfl, fun j u hu => by
        obtain rfl : j = 0 := by have := (List.getElem?_eq_some_iff.1 hu).1; simp at this; omega
        rw [Nat.mul_one, Nat.add_zero, hx k (List.getElem?_eq_some_iff.1 hk).1]
        exact hu, _, rfl, hrd _ _ (by unfold iF; omega) (hM.fl k x hk)⟩)
      rw [hv] at h9
      exact RdN.tail_ h9 hn
    · obtain ⟨xs, e, hx⟩ := hM.bk
      exact RdN.of_row (how (by omega) e) (fun k x hk => ⟨[(S (iB k)).v], rfl, fun j u hu => by
        obtain rfl : j = 0 := by have := (List.getElem?_eq_some_iff.1 hu).1; simp at this; omega
        rw [Nat.mul_one, Nat.add_zero, hx k (List.getElem?_eq_some_iff.1 hk).1]
        exact hu, _, rfl, hrd _ _ (by unfold iB; omega) (hM.bl k x hk)⟩)
    · exact RdS.of_own Car.len (OwC.of_own (how (by omega) hM.cs))
    · obtain ⟨xs, e, hx⟩ := hM.ls
      exact RdN.of_row (how (by omega) e) (fun k x hk => ⟨_, rfl, hx k x hk, _, rfl, hrd _ _ (by unfold iP; omega) (hM.pl k x hk)⟩)
  rw [q2, q3, q4, q5] at key
  refine ⟨_, _, _, _, _, _, _, _, _, _, _, _, _, _, _, _, _, _, (⟨(hs.more h1 h2).setNew (by omega) _ _, ho.setNew (by omega) _ _, hr.far (by omega) _ _, ?_, hsm, fun wy hk hz => key wy (fun q hq hl hne => (hk q hq (by simpa using hl)).trans (Below.heap_setCell _ _ _ _ hne)) (by simpa using hz), hlt, by omega⟩ : BSt w0 gs gm B K m.wd m.rk (.slice (some ⟨b, 0 + 1 * 1, none⟩) (n - 1) (c - 1)) (.slice A2 _ c2) (.slice A3 _ c3) (.slice A4 _ c4) (.slice A5 _ c5) _ _)⟩
  intro j u hu
  have h8 := (own_cellx hbx2 (i := j) (u := u) (by rw [q2, q3, q4, q5]; exact hu)).1
  rw [show 0 + j = j from Nat.zero_add j]
  exact h8
/-- One of three numbers. -/
theorem among3 {W : World} {gs b : Nat} {K : Int} {x y z : Int} (hS : Src W gs K) (hK : K + 2 ≤ 1000000000) (hb : Bx W b [.int .i64 x, .int .i64 y, .int .i64 z]) (hne : b ≠ gs) :
    Calls Tryd.prog 80 #[.pointer (some ⟨gs, 0, none⟩), .slice (some ⟨b, 0, none⟩) 3 3] W (Drawn W gs (K + 2) fun _ => True) := by
  refine (among_any W gs [x, y, z] _ K hS hK ⟨some ⟨b, 0, none⟩, 3, 3, rfl, by omega, rfl, fun k hk => ?_⟩ (fun A n c e _ => ?_) (by simp)).mono (fun e w' ⟨u, h1, h2, h3, h4⟩ => ⟨u, h1, trivial, h3, h4⟩)
  · obtain ⟨c0, c1, c2⟩ := CellsAt.three hb.1
    rcases k with _ | _ | _ | k
    · exact ⟨b, 0, x, rfl, hb.2.2, rfl, c0⟩
    · exact ⟨b, 0, y, rfl, hb.2.2, rfl, c1⟩
    · exact ⟨b, 0, z, rfl, hb.2.2, rfl, c2⟩
    · omega
  · injection e with e1 _ _
    exact ⟨b, 0, e1.symm, hne⟩

end Go.Proofs.YtccdnmafakaleaaDoor

/-
  The reference's l01BentNeedle and l07BentOp: operations that are often not valid.
-/
namespace Go.Proofs.YtccdnmafakaleaaDoor
set_option linter.unusedVariables false
set_option linter.unusedSimpArgs false
open Go.RowKit

/-- One of four numbers. -/
theorem among4 {W : World} {gs b : Nat} {K : Int} {x y z t : Int} (hS : Src W gs K) (hK : K + 2 ≤ 1000000000) (hb : Bx W b [.int .i64 x, .int .i64 y, .int .i64 z, .int .i64 t]) (hne : b ≠ gs) :
    Calls Tryd.prog 80 #[.pointer (some ⟨gs, 0, none⟩), .slice (some ⟨b, 0, none⟩) 4 4] W (Drawn W gs (K + 2) fun _ => True) := by
  refine (among_any W gs [x, y, z, t] _ K hS hK ⟨some ⟨b, 0, none⟩, 4, 4, rfl, by omega, rfl, fun k hk => ?_⟩ (fun A n c e _ => ?_) (by simp)).mono (fun e w' ⟨u, h1, h2, h3, h4⟩ => ⟨u, h1, trivial, h3, h4⟩)
  · have c := hb.1
    rcases k with _ | _ | _ | _ | k
    · exact ⟨b, 0, x, rfl, hb.2.2, rfl, by have := c 0 _ rfl; simpa using this⟩
    · exact ⟨b, 0, y, rfl, hb.2.2, rfl, by have := c 1 _ rfl; simpa using this⟩
    · exact ⟨b, 0, z, rfl, hb.2.2, rfl, by have := c 2 _ rfl; simpa using this⟩
    · exact ⟨b, 0, t, rfl, hb.2.2, rfl, by have := c 3 _ rfl; simpa using this⟩
    · omega
  · injection e with e1 _ _
    exact ⟨b, 0, e1.symm, hne⟩
/-- A needle that may be none. -/
def DrawnAny (w : World) (g : Nat) (K : Int) (e : Ending) (w' : World) : Prop := ∃ b a, e = .returned (.agg #[.int .i64 b, .int .i64 a]) ∧ Src w' g K ∧ Only g (g + 1) w w'
/-- The source, what has turned, the result's box, and another. -/
structure OSt (w0 : World) (gs : Nat) (K : Int) (zs : List Value) (g6 : Nat) (us : List Value) (wx : World) : Prop where
  src : Src wx gs K
  only : Only gs (gs + 1) w0 wx
  res : Bx wx w0.heap.size zs
  op : Bx wx g6 us
  ne : w0.heap.size ≠ g6
  lt : w0.heap.size < g6
theorem OSt.alloc {w0 wx : World} {gs g6 : Nat} {K : Int} {zs us : List Value} (h : OSt w0 gs K zs g6 us wx) (o : Obj) : OSt w0 gs K zs g6 us (wx.alloc o) := ⟨h.src.alloc _, h.only.alloc _, h.res.alloc _, h.op.alloc _, h.ne, h.lt⟩
theorem OSt.turn {w0 wx wy : World} {gs g6 : Nat} {K K' : Int} {zs us : List Value} (h : OSt w0 gs K zs g6 us wx) (hg : gs < w0.heap.size) (hs : Src wy gs K') (ho : Only gs (gs + 1) wx wy) : OSt w0 gs K' zs g6 us wy :=
  ⟨hs, h.only.trans ho, h.res.only ho (by omega), h.op.only ho (by have := h.lt; omega), h.ne, h.lt⟩
theorem OSt.set {w0 wx : World} {gs g6 : Nat} {K : Int} {zs us : List Value} (h : OSt w0 gs K zs g6 us wx) (hg : gs < w0.heap.size) (i : Nat) (u : Value) (hi : i < us.length := by simp) : OSt w0 gs K zs g6 (us.set i u) (wx.setCell ⟨g6, i, none⟩ u) :=
  ⟨h.src.setNew (by have := h.lt; omega) _ _, h.only.setNew (by have := h.lt; omega) _ _, h.res.far (by have := h.lt; omega) _ _, h.op.set hi _, h.ne, h.lt⟩

set_option maxHeartbeats 4000000 in
set_option maxRecDepth 100000 in
theorem l01BentNeedle_any {w : World} {gs : Nat} {K : Int} (hS : Src w gs K) (hK : K + 8 ≤ 1000000000) : Calls Tryd.prog 121 #[.pointer (some ⟨gs, 0, none⟩)] w (DrawnAny w gs (K + 8)) := by
  have hgs := hS.lt
  have HS := Lib.hid hS
  have HR := Lib.hid (Bx.new w [.int .i64 0, .int .i64 0] 50)
  clear hS
  go_enter Tryd.func121, Tryd.ntmps121
  go_wp2_with fail
  refine (l01DrawNeedle_any _ gs 24 K (HS.out.alloc _) (by omega) (by omega)).mono ?_
  rintro e w1 ⟨b, a, rfl, -, -, -, hs1, ho1⟩
  have HO1 : Hid (OSt w gs (K + 4) [.int .i64 0, .int .i64 0] w1.heap.size [.int .i64 b, .int .i64 a] (w1.alloc (.cells #[.int .i64 b, .int .i64 a] 50))) := by
    have hz1 : w.heap.size < w1.heap.size := by have := ho1.size; rw [World.size_alloc] at this; exact this
    exact ⟨hs1.alloc _, (((Only.refl gs (gs + 1) w).alloc _).trans ho1).alloc _, (HR.out.only ho1 (by omega)).alloc _, Bx.new w1 _ _, by omega, hz1⟩
  clear hs1 ho1 HR HS
  go_wp2_with fail
  generalize hW : w1.alloc (.cells #[.int .i64 b, .int .i64 a] 50) = W1 at *
  generalize w1.heap.size = g3 at *
  clear hW
  refine (pick_any W1 gs 8 (K + 4) HO1.out.src (by omega)).mono ?_
  rintro e w2 ⟨x, rfl, -, hs2, ho2⟩
  have HO2 := Lib.hid (HO1.out.turn hgs hs2 ho2)
  have hne := HO2.out.ne
  clear hs2 ho2 HO1
  have hfin : ∀ (wq : World) (b' a' : Int) (K' : Int), K' ≤ K + 8 → OSt w gs K' [.int .i64 0, .int .i64 0] g3 [.int .i64 b', .int .i64 a'] wq → DrawnAny w gs (K + 8) (.returned (.agg #[.int .i64 b', .int .i64 a'])) ((wq.setCell ⟨w.heap.size, 0, none⟩ (.int .i64 b')).setCell ⟨w.heap.size, 1, none⟩ (.int .i64 a')) := fun wq b' a' K' hk h =>
    ⟨b', a', rfl, ((h.src.more hk hK).setNew hgs _ _).setNew hgs _ _, (h.only.setNew (Nat.le_refl _) _ _).setNew (Nat.le_refl _) _ _⟩
  have HFIN := Lib.hid hfin
  clear hfin
  by_cases h0 : x = 0
  · subst h0
    have HA := Lib.hid (HO2.out.alloc (.cells #[.int .i64 0, .int .i64 3, .int .i64 (-1)] 2))
    have HAB := Lib.hid (Bx.new w2 [.int .i64 0, .int .i64 3, .int .i64 (-1)] 2)
    have hg2 : w2.heap.size ≠ gs := by have := HO2.out.src.lt; omega
    go_wp2_with fail
    refine (among3 HA.out.src (by omega) HAB.out hg2).mono ?_
    rintro e w3 ⟨y, rfl, -, hs3, ho3⟩
    have HO3 := Lib.hid (HA.out.turn hgs hs3 ho3)
    have HF := Lib.hid (HFIN.out _ y a _ (by omega) (HO3.out.set hgs 0 (.int .i64 y)))
    obtain ⟨n0, n1⟩ := HO3.out.op.two
    have nf := HO3.out.op.2.1
    obtain ⟨r0, r1⟩ := HO3.out.res.two
    have rf := HO3.out.res.2.1
    clear hs3 ho3 HA HAB
    go_wp2
    refine bodyPost_ret (v := .agg #[.int .i64 y, .int .i64 a]) (by simp [results, Tryd.results121, go_sem, r0, r1, World.cell?_setCell_other]) rfl ?_
    exact HF.out
  · have e0 : (x == 0) = false := by simpa using h0
    by_cases h1 : x = 1
    · subst h1
      have HA := Lib.hid (HO2.out.alloc (.cells #[.int .i64 (-1), .int .i64 23, .int .i64 24, .int .i64 (-9223372036854775808)] 2))
      have HAB := Lib.hid (Bx.new w2 [.int .i64 (-1), .int .i64 23, .int .i64 24, .int .i64 (-9223372036854775808)] 2)
      have hg2 : w2.heap.size ≠ gs := by have := HO2.out.src.lt; omega
      go_wp2_with fail
      refine (among4 HA.out.src (by omega) HAB.out hg2).mono ?_
      rintro e w3 ⟨y, rfl, -, hs3, ho3⟩
      have HO3 := Lib.hid (HA.out.turn hgs hs3 ho3)
      have HF := Lib.hid (HFIN.out _ b y _ (by omega) (HO3.out.set hgs 1 (.int .i64 y)))
      obtain ⟨n0, n1⟩ := HO3.out.op.two
      have nf := HO3.out.op.2.1
      obtain ⟨r0, r1⟩ := HO3.out.res.two
      have rf := HO3.out.res.2.1
      clear hs3 ho3 HA HAB
      go_wp2
      refine bodyPost_ret (v := .agg #[.int .i64 b, .int .i64 y]) (by simp [results, Tryd.results121, go_sem, r0, r1, World.cell?_setCell_other]) rfl ?_
      exact HF.out
    · have e1 : (x == 1) = false := by simpa using h1
      have HF := Lib.hid (HFIN.out _ b a _ (by omega) HO2.out)
      obtain ⟨n0, n1⟩ := HO2.out.op.two
      obtain ⟨r0, r1⟩ := HO2.out.res.two
      have rf := HO2.out.res.2.1
      clear h0 h1
      go_wp2
      refine bodyPost_ret (v := .agg #[.int .i64 b, .int .i64 a]) (by simp [results, Tryd.results121, go_sem, r0, r1, World.cell?_setCell_other]) rfl ?_
      exact HF.out

/-- Any operation that was drawn. -/
def DrawnO (w : World) (g : Nat) (K : Int) (e : Ending) (w' : World) : Prop := ∃ x : Opr, e = .returned x.v ∧ Src w' g K ∧ Only g (g + 1) w w'
set_option maxHeartbeats 8000000 in
set_option maxRecDepth 100000 in
theorem l07BentOp_any {w : World} {gm gs : Nat} {m : Mc} {K : Int} (hS : Src w gs K) (hP : RdP w gm m) (hdr : m.dr.length ≤ 1048576) (hM : okM m = true → ∃ B S, MSt w B gm m S ∧ gs < B) (hK : K + 32 ≤ 1000000000) :
    Calls Tryd.prog 110 #[.pointer (some ⟨gs, 0, none⟩), .pointer (some ⟨gm, 0, none⟩)] w (DrawnO w gs (K + 32)) := by
  have hgs := hS.lt
  have HS := Lib.hid hS
  have HM := Lib.hid hM
  have hb1 := (Below.refl w.heap.size w).alloc (Nat.le_refl _) (.cells zOp.toArray 52)
  have hr0 := Bx.new w zOp 52
  have hr1 := hr0.alloc (.cells [.int .i64 7, .int .i64 0, .int .i64 0, .int .i64 0, .int .i64 0, .int .i64 0, .int .i64 0, .int .i64 0].toArray 52)
  have hp1 := Bx.new (w.alloc (.cells zOp.toArray 52)) [.int .i64 7, .int .i64 0, .int .i64 0, .int .i64 0, .int .i64 0, .int .i64 0, .int .i64 0, .int .i64 0] 52
  rw [World.size_alloc] at hp1
  have hB2 := (hb1.alloc (by simp) (.cells [.int .i64 7, .int .i64 0, .int .i64 0, .int .i64 0, .int .i64 0, .int .i64 0, .int .i64 0, .int .i64 0].toArray 52))
  have HB2 := Lib.hid hB2
  have HO1 : Hid (OSt w gs K zOp (w.heap.size + 1) (⟨7, 0, 0, 0, 0, 0, 0, 0⟩ : Opr).cells ((w.alloc (.cells zOp.toArray 52)).alloc (.cells [.int .i64 7, .int .i64 0, .int .i64 0, .int .i64 0, .int .i64 0, .int .i64 0, .int .i64 0, .int .i64 0].toArray 52))) :=
    ⟨(hS.alloc _).alloc _, ((Only.refl _ _ _).alloc _).alloc _, hr1, hp1, by omega, by omega⟩
  have HP := Lib.hid (hP.below hB2)
  clear hS hM hP hb1 hr0 hr1 hp1 hB2
  go_enter Tryd.func110, Tryd.ntmps110
  go_wp2_with fail
  refine (l07Ok_p m gm _ HP.out hdr).mono ?_
  rintro e w2 ⟨rfl, hb2⟩
  have HO2 := Lib.hid (HO1.out.turn hgs (HO1.out.src.below hb2 HO1.out.src.lt) (Only.of_below hb2))
  have HB3 := Lib.hid (HB2.out.trans (hb2.mono HB2.out.size))
  clear hb2 HO1 HP HB2
  go_upto_if 8 with fail
  go_cut [] (fun wx => ∃ (o : Opr) (wy : World), wy = wx ∧ Hid (OSt w gs (K + 20) zOp (w.heap.size + 1) o.cells wx))
  case first =>
    cases hok : okM m
    · have HF := Lib.hid (HO2.out.turn hgs (HO2.out.src.more (show K ≤ K + 20 by omega) (by omega)) (Only.refl _ _ _))
      clear hok
      go_wp2
      go_meet
      case rel => exact ⟨⟨7, 0, 0, 0, 0, 0, 0, 0⟩, _, rfl, HF.out⟩
    · obtain ⟨B, S, hM, hgB⟩ := HM.out hok
      have HQ := Lib.hid (l07DrawOp_any (K := K) HO2.out.src (hM.below HB3.out) hgB (by omega) hok)
      clear hM hok
      go_wp2_with fail
      refine (HQ.out).mono ?_
      rintro e w3 ⟨x, rfl, -, hs3, ho3⟩
      have HO3 := Lib.hid (HO2.out.turn hgs hs3 ho3)
      obtain ⟨o0, o1, o2, o3, o4, o5, o6, o7⟩ := HO3.out.op.eight
      have of := HO3.out.op.2.1
      have HF : Hid (OSt w gs (K + 20) zOp (w.heap.size + 1) x.cells (set8 w3 (w.heap.size + 1) (.int .i64 x.k) (.int .i64 x.d) (.int .i64 x.fb) (.int .i64 x.fa) (.int .i64 x.tb) (.int .i64 x.ta) (.int .i64 x.c) (.int .i64 x.r))) :=
        ⟨HO3.out.src.set8 (by omega) _ _ _ _ _ _ _ _, HO3.out.only.set8 (by omega) _ _ _ _ _ _ _ _, HO3.out.res.far8 (by omega) _ _ _ _ _ _ _ _, HO3.out.op.set8 _ _ _ _ _ _ _ _, by omega, by omega⟩
      clear hs3 ho3 HQ
      go_wp2
      go_meet
      case rel => exact ⟨x, _, rfl, HF.out⟩
  case rest =>
    obtain ⟨HOS, w3, rfl, HO3⟩ := hcut
    clear HO2 HB3 HM
    go_wp2_with fail
    refine (pick_any w3 gs 14 (K + 20) HO3.out.src (by omega)).mono ?_
    rintro e w4 ⟨z, rfl, -, hs4, ho4⟩
    have HO4 : Hid (OSt w gs (K + 22) zOp (w.heap.size + 1) HOS.cells w4) := by have h9 := HO3.out.turn hgs hs4 ho4; rwa [show K + 20 + 2 = K + 22 by omega] at h9
    clear hs4 ho4 HO3
    go_upto_block 0 with fail
    go_cut [] (fun wx => ∃ (o : Opr) (wy : World), wy = wx ∧ Hid (∃ K', K' ≤ K + 32 ∧ OSt w gs K' zOp (w.heap.size + 1) o.cells wx))
    case first =>
      by_cases h0 : z = 0
      · subst h0
        go_wp2_with fail
        refine (pick_any _ gs 11 (K + 22) HO4.out.src (by omega)).mono ?_
        rintro e w5 ⟨y, rfl, hy, hs5, ho5⟩
        have HO5 := Lib.hid ((HO4.out.turn hgs hs5 ho5).set hgs 0 (.int .i64 y))
        have hcl : (HOS.cells.set 0 (.int .i64 y)) = ({ HOS with k := y } : Opr).cells := rfl
        obtain ⟨HOS2, hos2⟩ : ∃ o2, o2 = ({ HOS with k := y } : Opr) := ⟨_, rfl⟩
        rw [hcl, ← hos2] at HO5
        obtain ⟨q0, q1, q2, q3, q4, q5, q6, q7⟩ := (HO4.out.turn hgs hs5 ho5).op.eight
        have qf := (HO4.out.turn hgs hs5 ho5).op.2.1
        obtain ⟨r0, r1, r2, r3, r4, r5, r6, r7⟩ := (HO4.out.turn hgs hs5 ho5).res.eight
        have rf := (HO4.out.turn hgs hs5 ho5).res.2.1
        have hne := HO5.out.ne
        clear hs5 ho5 hcl
        go_wp2
        go_meet
        case rel => exact ⟨HOS2, _, rfl, _, by omega, HO5.out⟩
      · have e0 : (z == 0) = false := by simpa using h0
        by_cases h1 : z = 1
        · subst h1
          go_wp2_with fail
          refine (pick_any _ gs 4 (K + 22) HO4.out.src (by omega)).mono ?_
          rintro e w5 ⟨y, rfl, hy, hs5, ho5⟩
          have hwy : IntKind.i64.wrap (y - 2) = y - 2 := wrap_sm (by have := hy.1; have := hy.2.1 (by omega); omega) (by have := hy.1; have := hy.2.1 (by omega); omega)
          have HO5 := Lib.hid ((HO4.out.turn hgs hs5 ho5).set hgs 1 (.int .i64 (y - 2)))
          have hcl : (HOS.cells.set 1 (.int .i64 (y - 2))) = ({ HOS with d := (y - 2) } : Opr).cells := rfl
          obtain ⟨HOS2, hos2⟩ : ∃ o2, o2 = ({ HOS with d := (y - 2) } : Opr) := ⟨_, rfl⟩
          rw [hcl, ← hos2] at HO5
          obtain ⟨q0, q1, q2, q3, q4, q5, q6, q7⟩ := (HO4.out.turn hgs hs5 ho5).op.eight
          have qf := (HO4.out.turn hgs hs5 ho5).op.2.1
          obtain ⟨r0, r1, r2, r3, r4, r5, r6, r7⟩ := (HO4.out.turn hgs hs5 ho5).res.eight
          have rf := (HO4.out.turn hgs hs5 ho5).res.2.1
          have hne := HO5.out.ne
          clear hs5 ho5 hcl
          go_wp2
          go_meet
          case rel => exact ⟨HOS2, _, rfl, _, by omega, HO5.out⟩
        · have e1 : (z == 1) = false := by simpa using h1
          by_cases h2 : z = 2
          · subst h2
            go_wp2_with fail
            refine (l01BentNeedle_any (K := K + 22) HO4.out.src (by omega)).mono ?_
            rintro e w5 ⟨yb, ya, rfl, hs5, ho5⟩
            have HO5 := Lib.hid (((HO4.out.turn hgs hs5 ho5).set hgs 2 (.int .i64 yb)).set hgs 3 (.int .i64 ya))
            have hcl : ((HOS.cells.set 2 (.int .i64 yb)).set 3 (.int .i64 ya)) = ({ HOS with fb := yb, fa := ya } : Opr).cells := rfl
            obtain ⟨HOS2, hos2⟩ : ∃ o2, o2 = ({ HOS with fb := yb, fa := ya } : Opr) := ⟨_, rfl⟩
            rw [hcl, ← hos2] at HO5
            obtain ⟨q0, q1, q2, q3, q4, q5, q6, q7⟩ := (HO4.out.turn hgs hs5 ho5).op.eight
            have qf := (HO4.out.turn hgs hs5 ho5).op.2.1
            obtain ⟨r0, r1, r2, r3, r4, r5, r6, r7⟩ := (HO4.out.turn hgs hs5 ho5).res.eight
            have rf := (HO4.out.turn hgs hs5 ho5).res.2.1
            have hne := HO5.out.ne
            clear hs5 ho5 hcl
            go_wp2
            go_meet
            case rel => exact ⟨HOS2, _, rfl, _, by omega, HO5.out⟩
          · have e2 : (z == 2) = false := by simpa using h2
            by_cases h3 : z = 3
            · subst h3
              go_wp2_with fail
              refine (l01BentNeedle_any (K := K + 22) HO4.out.src (by omega)).mono ?_
              rintro e w5 ⟨yb, ya, rfl, hs5, ho5⟩
              have HO5 := Lib.hid (((HO4.out.turn hgs hs5 ho5).set hgs 4 (.int .i64 yb)).set hgs 5 (.int .i64 ya))
              have hcl : ((HOS.cells.set 4 (.int .i64 yb)).set 5 (.int .i64 ya)) = ({ HOS with tb := yb, ta := ya } : Opr).cells := rfl
              obtain ⟨HOS2, hos2⟩ : ∃ o2, o2 = ({ HOS with tb := yb, ta := ya } : Opr) := ⟨_, rfl⟩
              rw [hcl, ← hos2] at HO5
              obtain ⟨q0, q1, q2, q3, q4, q5, q6, q7⟩ := (HO4.out.turn hgs hs5 ho5).op.eight
              have qf := (HO4.out.turn hgs hs5 ho5).op.2.1
              obtain ⟨r0, r1, r2, r3, r4, r5, r6, r7⟩ := (HO4.out.turn hgs hs5 ho5).res.eight
              have rf := (HO4.out.turn hgs hs5 ho5).res.2.1
              have hne := HO5.out.ne
              clear hs5 ho5 hcl
              go_wp2
              go_meet
              case rel => exact ⟨HOS2, _, rfl, _, by omega, HO5.out⟩
            · have e3 : (z == 3) = false := by simpa using h3
              by_cases h4 : z = 4
              · subst h4
                have HA := Lib.hid (HO4.out.alloc (.cells #[.int .i64 0, .int .i64 5, .int .i64 4, .int .i64 (-1)] 2))
                have HAB := Lib.hid (Bx.new w4 [.int .i64 0, .int .i64 5, .int .i64 4, .int .i64 (-1)] 2)
                have hg4 : w4.heap.size ≠ gs := by have := HO4.out.src.lt; omega
                go_wp2_with fail
                refine (among4 HA.out.src (by omega) HAB.out hg4).mono ?_
                rintro e w5 ⟨y, rfl, hy, hs5, ho5⟩
                have HO5 := Lib.hid ((HA.out.turn hgs hs5 ho5).set hgs 6 (.int .i64 y))
                have hcl : (HOS.cells.set 6 (.int .i64 y)) = ({ HOS with c := y } : Opr).cells := rfl
                obtain ⟨HOS2, hos2⟩ : ∃ o2, o2 = ({ HOS with c := y } : Opr) := ⟨_, rfl⟩
                rw [hcl, ← hos2] at HO5
                obtain ⟨q0, q1, q2, q3, q4, q5, q6, q7⟩ := (HA.out.turn hgs hs5 ho5).op.eight
                have qf := (HA.out.turn hgs hs5 ho5).op.2.1
                obtain ⟨r0, r1, r2, r3, r4, r5, r6, r7⟩ := (HA.out.turn hgs hs5 ho5).res.eight
                have rf := (HA.out.turn hgs hs5 ho5).res.2.1
                have hne := HO5.out.ne
                clear hs5 ho5 hcl HA HAB hg4
                go_wp2
                go_meet
                case rel => exact ⟨HOS2, _, rfl, _, by omega, HO5.out⟩
              · have e4 : (z == 4) = false := by simpa using h4
                by_cases h5 : z = 5
                · subst h5
                  have HA := Lib.hid (HO4.out.alloc (.cells #[.int .i64 (-4), .int .i64 4, .int .i64 1] 2))
                  have HAB := Lib.hid (Bx.new w4 [.int .i64 (-4), .int .i64 4, .int .i64 1] 2)
                  have hg4 : w4.heap.size ≠ gs := by have := HO4.out.src.lt; omega
                  go_wp2_with fail
                  refine (among3 HA.out.src (by omega) HAB.out hg4).mono ?_
                  rintro e w5 ⟨y, rfl, hy, hs5, ho5⟩
                  have HO5 := Lib.hid ((HA.out.turn hgs hs5 ho5).set hgs 7 (.int .i64 y))
                  have hcl : (HOS.cells.set 7 (.int .i64 y)) = ({ HOS with r := y } : Opr).cells := rfl
                  obtain ⟨HOS2, hos2⟩ : ∃ o2, o2 = ({ HOS with r := y } : Opr) := ⟨_, rfl⟩
                  rw [hcl, ← hos2] at HO5
                  obtain ⟨q0, q1, q2, q3, q4, q5, q6, q7⟩ := (HA.out.turn hgs hs5 ho5).op.eight
                  have qf := (HA.out.turn hgs hs5 ho5).op.2.1
                  obtain ⟨r0, r1, r2, r3, r4, r5, r6, r7⟩ := (HA.out.turn hgs hs5 ho5).res.eight
                  have rf := (HA.out.turn hgs hs5 ho5).res.2.1
                  have hne := HO5.out.ne
                  clear hs5 ho5 hcl HA HAB hg4
                  go_wp2
                  go_meet
                  case rel => exact ⟨HOS2, _, rfl, _, by omega, HO5.out⟩
                · have e5 : (z == 5) = false := by simpa using h5
                  have HO5 := HO4
                  obtain ⟨HOS2, hos2⟩ : ∃ o2, o2 = HOS := ⟨_, rfl⟩
                  rw [← hos2] at HO5
                  obtain ⟨q0, q1, q2, q3, q4, q5, q6, q7⟩ := HO4.out.op.eight
                  have qf := HO4.out.op.2.1
                  obtain ⟨r0, r1, r2, r3, r4, r5, r6, r7⟩ := HO4.out.res.eight
                  have rf := HO4.out.res.2.1
                  have hne := HO5.out.ne
                  go_wp2
                  go_meet
                  case rel => exact ⟨HOS2, _, rfl, _, by omega, HO5.out⟩
    case rest =>
      obtain ⟨o, w5, rfl, HO5⟩ := hcut
      obtain ⟨K', hk, hO⟩ := HO5.out
      have HO6 := Lib.hid hO
      obtain ⟨q0, q1, q2, q3, q4, q5, q6, q7⟩ := hO.op.eight
      obtain ⟨r0, r1, r2, r3, r4, r5, r6, r7⟩ := hO.res.eight
      have rf := hO.res.2.1
      clear hO HO5
      go_wp2
      refine bodyPost_ret (v := o.v) (by simp [results, Tryd.results110, go_sem, r0, r1, r2, r3, r4, r5, r6, r7, World.cell?_setCell_other, Opr.v]) rfl ?_
      exact ⟨o, rfl, (HO6.out.src.more hk hK).set8 hgs _ _ _ _ _ _ _ _, HO6.out.only.set8 (Nat.le_refl _) _ _ _ _ _ _ _ _⟩

end Go.Proofs.YtccdnmafakaleaaDoor

/-
  A row of the call's own that stands while only the source turns.
-/
namespace Go.Proofs.YtccdnmafakaleaaDoor
set_option linter.unusedVariables false
set_option linter.unusedSimpArgs false
open Go.RowKit

theorem own_only {w w' : World} {B e size n gs : Nat} {v : Value} {xs : List Value} (h : w.ownsRow B e size v n xs) (ho : Only gs (gs + 1) w w') (hg : gs < B) : w'.ownsRow B e size v n xs := by
  refine ⟨h.1, ?_⟩
  rcases h.2 with h2 | ⟨g, cap, cur, hv, hg', hh, h3⟩
  · exact .inl h2
  · exact .inr ⟨g, cap, cur, hv, hg', (ho.block g (Array.getElem?_eq_some_iff.1 hh).1 (by omega)).trans hh, h3⟩

end Go.Proofs.YtccdnmafakaleaaDoor

/-
  Operations that are drawn: l08Draw, l08Bent, l08DrawOps.
-/
namespace Go.Proofs.YtccdnmafakaleaaDoor
set_option linter.unusedVariables false
set_option linter.unusedSimpArgs false
open Go.RowKit

def sLen : Value → Nat
  | .slice _ n _ => n
  | _ => 0
/-- A row of operations of the call's own, beside the source. -/
structure DSo (w0 : World) (gs : Nat) (K : Int) (v : Value) (l : List Opr) (wx : World) : Prop where
  own : wx.ownsRow w0.heap.size 52 8 v l.length (vS Opr.cells l)
  src : Src wx gs K
  only : Only gs (gs + 1) w0 wx
theorem DSo.turn {w0 wx wy : World} {gs : Nat} {K K' : Int} {v : Value} {l : List Opr} (h : DSo w0 gs K v l wx) (hg : gs < w0.heap.size) (hs : Src wy gs K') (ho : Only gs (gs + 1) wx wy) : DSo w0 gs K' v l wy := ⟨own_only h.own ho hg, hs, h.only.trans ho⟩
theorem DSo.below {w0 wx wy : World} {gs : Nat} {K : Int} {v : Value} {l : List Opr} (h : DSo w0 gs K v l wx) (hb : Below wx.heap.size wx wy) : DSo w0 gs K v l wy := ⟨own_below h.own hb, h.src.below hb h.src.lt, h.only.trans (Only.of_below hb)⟩
theorem DSo.alloc {w0 wx : World} {gs : Nat} {K : Int} {v : Value} {l : List Opr} (h : DSo w0 gs K v l wx) (o : Obj) : DSo w0 gs K v l (wx.alloc o) := h.below ((Below.refl _ _).alloc (Nat.le_refl _) o)
theorem DSo.drew {w0 wx : World} {gs : Nat} {K : Int} {v : Value} {l : List Opr} (h : DSo w0 gs K v l wx) : DSo w0 gs K v l wx.drew := ⟨h.own, h.src, only_drew h.only⟩
theorem DSo.more {w0 wx : World} {gs : Nat} {K K' : Int} {v : Value} {l : List Opr} (h : DSo w0 gs K v l wx) (h1 : K ≤ K') (h2 : K' ≤ 1000000000) : DSo w0 gs K' v l wx := ⟨h.own, h.src.more h1 h2, h.only⟩
theorem DSo.app {w0 wx wy : World} {gs : Nat} {K : Int} {v v' : Value} {l : List Opr} {x : Opr} {o : Obj} (h : DSo w0 gs K v l wx) (hg : gs < w0.heap.size)
    (hown : wy.ownsRow w0.heap.size 52 8 v' (l.length + 1) (vS Opr.cells l ++ x.cells)) (hgr : (wx.alloc o).grownBy wy v.ownBlock) : DSo w0 gs K v' (l ++ [x]) wy := by
  have hA := h.alloc o
  have hb : Below w0.heap.size (wx.alloc o) wy := Below.grown (Below.refl _ _) hgr hA.only.size (fun k hk => (World.ownsRow.lt h.own k hk).1)
  refine ⟨by rw [List.length_append, vS_snoc]; exact hown, hA.src.below hb hg, ?_⟩
  exact ⟨hb.os.trans hA.only.os, hb.tape.trans hA.only.tape, hb.output.trans hA.only.output, Nat.le_trans hA.only.size hb.size, fun k hk hk2 => (hb.block k hk).trans (hA.only.block k hk hk2)⟩
/-- What was drawn: operations that can be read. -/
def DrawnOs (w : World) (gs : Nat) (K : Int) (v : Value) (w' : World) : Prop := ∃ l : List Opr, RdO w' w'.heap.size v l ∧ CapOk v ∧ l.length ≤ 3000 ∧ Src w' gs K ∧ Only gs (gs + 1) w w'
theorem DSo.drawn {w0 wx : World} {gs : Nat} {K K' : Int} {v : Value} {l : List Opr} (h : DSo w0 gs K v l wx) (hl : l.length ≤ 3000) (h1 : K ≤ K') (h2 : K' ≤ 1000000000) : DrawnOs w0 gs K' v wx := by
  obtain ⟨A, c, rfl, hm, -⟩ := (OwC.of_own h.own).cells
  refine ⟨l, RdS.of_own Opr.len (OwC.of_own h.own), ?_, hl, h.src.more h1 h2, h.only⟩
  rcases h.own.2 with ⟨hv, h0⟩ | ⟨g, cap, cur, hv, _, _, h3, _⟩
  · exact ⟨_, _, _, hv, by omega⟩
  · exact ⟨_, _, _, hv, h3⟩
theorem RdS.tail_ {α : Type} {cs : α → List Value} {sz : Nat} {w : World} {B b o n c : Nat} {l : List α} (h : RdS cs sz w B (.slice (some ⟨b, o, none⟩) n c) l) (hn : 0 < n) : RdS cs sz w B (.slice (some ⟨b, o + 1 * sz, none⟩) (n - 1) (c - 1)) l.tail := by
  obtain ⟨A, n', c', e, h1, h2, h3⟩ := h
  injection e with e1 e2 e3
  subst e1 e2 e3
  refine ⟨_, _, _, rfl, by omega, by unfold Hid; rw [List.length_tail, h2.out], fun k hk => ?_⟩
  obtain ⟨b', off', x, e, hb, hx, hc⟩ := h3 (k + 1) (by omega)
  injection e with e
  injection e with e1 e2
  subst e1 e2
  refine ⟨b, o + 1 * sz, x, rfl, hb, by rw [List.getElem?_tail]; exact hx, ?_⟩
  rw [show o + 1 * sz + k * sz = o + (k + 1) * sz by rw [Nat.add_mul]; omega]
  exact hc
theorem vS_set8 {l : List Opr} {k : Nat} (hk : k < l.length) (x : Opr) :
    (((((((((vS Opr.cells l).set (k * 8) (.int .i64 x.k)).set (k * 8 + 1) (.int .i64 x.d)).set (k * 8 + 2) (.int .i64 x.fb)).set (k * 8 + 3) (.int .i64 x.fa)).set (k * 8 + 4) (.int .i64 x.tb)).set (k * 8 + 5) (.int .i64 x.ta)).set (k * 8 + 6) (.int .i64 x.c)).set (k * 8 + 7) (.int .i64 x.r)) = vS Opr.cells (l.set k x) := by
  have hlen := vS_len Opr.len l
  refine vS_ext Opr.len (by decide) (by simp only [List.length_set]; exact hlen) fun q y hy j hj => ?_
  have hq : q < l.length := by
    have := (List.getElem?_eq_some_iff.1 hy).1
    rwa [List.length_set] at this
  by_cases e : q = k
  · subst e
    rw [List.getElem?_set_self hk] at hy
    injection hy with hy
    subst hy
    have hb : q * 8 + 8 ≤ (vS Opr.cells l).length := by rw [hlen]; omega
    obtain rfl | rfl | rfl | rfl | rfl | rfl | rfl | rfl : j = 0 ∨ j = 1 ∨ j = 2 ∨ j = 3 ∨ j = 4 ∨ j = 5 ∨ j = 6 ∨ j = 7 := by omega
    all_goals simp [List.getElem?_set]
    all_goals omega
  · rw [List.getElem?_set_ne (fun e' => e e'.symm)] at hy
    have h1 := vS_get Opr.len l q y hy j hj
    rw [← h1]
    have hne : ∀ i, i < 8 → k * 8 + i ≠ q * 8 + j := fun i hi he => by
      rcases Nat.lt_or_gt_of_ne e with h | h <;> omega
    rw [List.getElem?_set_ne (hne 7 (by omega)), List.getElem?_set_ne (hne 6 (by omega)), List.getElem?_set_ne (hne 5 (by omega)), List.getElem?_set_ne (hne 4 (by omega)), List.getElem?_set_ne (hne 3 (by omega)), List.getElem?_set_ne (hne 2 (by omega)), List.getElem?_set_ne (hne 1 (by omega)), List.getElem?_set_ne (by have := hne 0 (by omega); omega)]
set_option maxHeartbeats 4000000 in
set_option maxRecDepth 100000 in
theorem l08Draw_any {w : World} {gs : Nat} {K : Int} (hS : Src w gs K) (hK : K + 404 ≤ 1000000000) :
    Calls Tryd.prog 108 #[.pointer (some ⟨gs, 0, none⟩)] w fun e w' => ∃ n v l, e = .returned (.tuple #[.int .i64 n, v]) ∧ 1 ≤ n ∧ n ≤ 24 ∧ l.length ≤ 20 ∧ DSo w gs (K + 404) v l w' := by
  have HS := Lib.hid hS
  have hgs := hS.lt
  clear hS
  go_enter Tryd.func108, Tryd.ntmps108
  go_wp2_with fail
  refine (l07DrawL_any (most := 20) HS.out (by omega) (by omega) (by omega)).mono ?_
  rintro e w1 ⟨m, S, g0, v, l, rfl, hok, hwd2, hM, hown, -, -, hlen, hs1, ho1⟩
  have hwd := (okM_iff.1 hok).wd
  have HD : Hid (DSo w gs (K + 404) v l w1) := ⟨hown, by rw [show K + 404 = K + 4 + 20 * 20 by omega]; exact hs1, ho1⟩
  obtain ⟨A1, c1, A2, c2, A3, c3, A4, c4, A5, c5, q1, q2, q3, q4, q5⟩ := hM.slices
  rw [q1, q2, q3, q4, q5]
  obtain ⟨A6, c6, rfl⟩ := own_shape hown
  have hl20 : l.length ≤ 20 := by omega
  have HX := Lib.hid (⟨hwd.1, hwd.2, hl20⟩ : 1 ≤ m.wd ∧ m.wd ≤ 24 ∧ l.length ≤ 20)
  clear hM hown hs1 ho1 q1 q2 q3 q4 q5 hok hwd hwd2 hlen hl20
  go_wp2
  go_ret2
  obtain ⟨x1, x2, x3⟩ := HX.out
  exact ⟨m.wd, _, l, rfl, x1, x2, x3, HD.out.alloc _⟩
theorem among5 {W : World} {gs b : Nat} {K : Int} {x y z u v : Int} (hS : Src W gs K) (hK : K + 2 ≤ 1000000000) (hb : Bx W b [.int .i64 x, .int .i64 y, .int .i64 z, .int .i64 u, .int .i64 v]) (hne : b ≠ gs) :
    Calls Tryd.prog 80 #[.pointer (some ⟨gs, 0, none⟩), .slice (some ⟨b, 0, none⟩) 5 5] W (Drawn W gs (K + 2) fun _ => True) := by
  refine (among_any W gs [x, y, z, u, v] _ K hS hK ⟨some ⟨b, 0, none⟩, 5, 5, rfl, by omega, rfl, fun k hk => ?_⟩ (fun A n c e _ => ?_) (by simp)).mono (fun e w' ⟨u, h1, h2, h3, h4⟩ => ⟨u, h1, trivial, h3, h4⟩)
  · have hx : [x, y, z, u, v][k]? = some [x, y, z, u, v][k] := List.getElem?_eq_getElem (by simpa using hk)
    have h1 := hb.1 k (.int .i64 [x, y, z, u, v][k]) (by
      obtain rfl | rfl | rfl | rfl | rfl : k = 0 ∨ k = 1 ∨ k = 2 ∨ k = 3 ∨ k = 4 := by omega
      all_goals rfl)
    exact ⟨b, 0, [x, y, z, u, v][k], rfl, hb.2.2, hx, h1⟩
  · injection e with e
    exact ⟨b, 0, e.symm, hne⟩
theorem among4m {W : World} {gs b : Nat} {K : Int} {x y z u : Int} (hS : Src W gs K) (hK : K + 2 ≤ 1000000000) (hb : Bx W b [.int .i64 x, .int .i64 y, .int .i64 z, .int .i64 u]) (hne : b ≠ gs) :
    Calls Tryd.prog 80 #[.pointer (some ⟨gs, 0, none⟩), .slice (some ⟨b, 0, none⟩) 4 4] W (Drawn W gs (K + 2) fun q => q ∈ [x, y, z, u]) := by
  refine among_any W gs [x, y, z, u] _ K hS hK ⟨some ⟨b, 0, none⟩, 4, 4, rfl, by omega, rfl, fun k hk => ?_⟩ (fun A n c e _ => ?_) (by simp)
  · have hx : [x, y, z, u][k]? = some [x, y, z, u][k] := List.getElem?_eq_getElem (by simpa using hk)
    have h1 := hb.1 k (.int .i64 [x, y, z, u][k]) (by
      obtain rfl | rfl | rfl | rfl : k = 0 ∨ k = 1 ∨ k = 2 ∨ k = 3 := by omega
      all_goals rfl)
    exact ⟨b, 0, [x, y, z, u][k], rfl, hb.2.2, hx, h1⟩
  · injection e with e
    exact ⟨b, 0, e.symm, hne⟩
set_option maxHeartbeats 16000000 in
set_option maxRecDepth 100000 in
theorem l08Bent_any {w : World} {gs : Nat} {K : Int} (hS : Src w gs K) (hK : K + 500 ≤ 1000000000) :
    Calls Tryd.prog 96 #[.pointer (some ⟨gs, 0, none⟩)] w fun e w' => ∃ n v, e = .returned (.tuple #[.int .i64 n, v]) ∧ DrawnOs w gs (K + 500) v w' := by
  obtain ⟨io, hio, ho0, ho1, ho2⟩ := info_parts info_op
  have HS := Lib.hid hS
  have hgs := hS.lt
  clear hS
  go_enter Tryd.func96, Tryd.ntmps96
  go_wp2_with fail
  refine (l08Draw_any HS.out (by omega)).mono ?_
  rintro e w1 ⟨n, v, l, rfl, hn1, hn24, hl20, hD⟩
  have HD := Lib.hid hD
  obtain ⟨A, c, rfl⟩ := own_shape hD.own
  clear hD HS
  go_wp2_with fail
  refine (l07New_any n hn1 hn24 _).mono ?_
  rintro e w2 ⟨S, g, rfl, hM, hb2⟩
  obtain ⟨S2, hM2, hS2, hb3⟩ := hM.rebox hb2.size
  obtain ⟨A1, c1, A2, c2, A3, c3, A4, c4, A5, c5, q1, q2, q3, q4, q5⟩ := hM.slices
  rw [q1, q2, q3, q4, q5] at hM2
  rw [q1, q2, q3, q4, q5]
  have M2 := Lib.hid hM2
  have HD2 := Lib.hid ((HD.out.below hb2).alloc (.cells (mcV (newMc n).wd (newMc n).rk (.slice A1 (newMc n).fr.length c1) (.slice A2 (newMc n).bk.length c2) (.slice A3 (newMc n).cs.length c3) (.slice A4 (newMc n).ls.length c4) (.slice A5 (newMc n).dr.length c5)) 33))
  have hgB : gs < w1.heap.size := HD.out.src.lt
  have hdr : (newMc n).dr.length ≤ 1048576 := by simp [newMc]
  have HDR := Lib.hid hdr
  clear hM hM2 hS2 hb2 hb3 q1 q2 q3 q4 q5 HD hdr
  go_wp2_with fail
  generalize w2.alloc (.cells (mcV (newMc n).wd (newMc n).rk (.slice A1 (newMc n).fr.length c1) (.slice A2 (newMc n).bk.length c2) (.slice A3 (newMc n).cs.length c3) (.slice A4 (newMc n).ls.length c4) (.slice A5 (newMc n).dr.length c5)) 33) = wA at *
  generalize w2.heap.size = gm at *
  refine (pick_any wA gs 10 (K + 404) HD2.out.src (by omega)).mono ?_
  rintro e w3 ⟨k, rfl, hk, hs3, ho3⟩
  have HD3 := Lib.hid (HD2.out.turn hgs hs3 ho3)
  have M3 := Lib.hid (M2.out.only ho3 hgB)
  clear hs3 ho3 HD2 M2 hk
  have hgs3 : gs < w3.heap.size := HD3.out.src.lt
  by_cases k0 : k = 0
  · subst k0
    go_wp2_with fail
    refine (among5 (HD3.out.alloc _).src (by omega) (Bx.new w3 [_, _, _, _, _] _) (by omega)).mono ?_
    rintro e w4 ⟨x, rfl, -, hs4, ho4⟩
    have HD4 := Lib.hid ((HD3.out.alloc _).turn hgs hs4 ho4)
    clear hs4 ho4 HD3 M3
    go_wp2
    go_ret2
    exact ⟨x, _, rfl, HD4.out.drawn (by omega) (by omega) hK⟩
  by_cases k1 : k = 1
  · subst k1
    clear k0
    go_wp2_with fail
    refine (l07BentOp_any HD3.out.src M3.out.rd HDR.out (fun _ => ⟨_, _, M3.out, hgB⟩) (by omega)).mono ?_
    rintro e w4 ⟨x, rfl, hs4, ho4⟩
    have HD4 := Lib.hid (HD3.out.turn hgs hs4 ho4)
    clear hs4 ho4 HD3 M3
    go_wp2_with (at_builtin; refine wpList_append_own_at _ rfl _ _ 39 rfl w.heap.size 52 io _ 8 64 Tryd.underlying39 hio ho0 ho1 ho2 rfl (by decide) _ _ _ rfl (HD4.out.own.alloc _) ⟨_, 0, none⟩ 1 1 x.cells rfl rfl (new_cells' _ _ (by simp)) (by intro u hu; simp at hu; rcases hu with rfl | rfl | rfl | rfl | rfl | rfl | rfl | rfl <;> rfl) (by unfold maxLen; omega) (by omega) (by have := HD4.out.only.size; (try simp); omega) ?_)
    intro v' w5 hown5 hgr5 _ _
    have HD5 := Lib.hid (HD4.out.app hgs hown5 hgr5)
    obtain ⟨A5', c5', rfl⟩ := own_shape hown5
    clear hown5 hgr5 HD4
    go_wp2
    go_ret2
    exact ⟨n, _, rfl, HD5.out.drawn (by simp; omega) (by omega) hK⟩
  by_cases k2 : k = 2
  · subst k2
    clear k0 k1
    by_cases hl0 : l.length = 0
    · have hg0 : ¬ (0 : Int) < (l.length : Int) := by omega
      have HX := Lib.hid (HD3.out.drawn (K' := K + 500) (by omega) (by omega) hK)
      clear hl0 HD3 M3
      go_wp2
      go_ret2
      exact ⟨n, _, rfl, HX.out⟩
    · have hg0 : (0 : Int) < (l.length : Int) := by omega
      go_wp2_with fail
      refine (pick_any w3 gs (l.length : Int) (K + 404 + 2) HD3.out.src (by omega)).mono ?_
      rintro e w4 ⟨k4, rfl, hk4, hs4, ho4⟩
      have HD4 := Lib.hid (HD3.out.turn hgs hs4 ho4)
      have M4 := Lib.hid (M3.out.only ho4 hgB)
      obtain ⟨kn, rfl⟩ := Int.eq_ofNat_of_zero_le hk4.1
      have hkl : kn < l.length := by
        rcases (by omega : 1 < (l.length : Int) ∨ (l.length : Int) ≤ 1) with h1 | h1
        · have := hk4.2.1 h1; omega
        · have := hk4.2.2 h1; omega
      clear hk4 hs4 ho4 HD3 M3
      go_wp2_with fail
      refine (l07BentOp_any HD4.out.src M4.out.rd HDR.out (fun _ => ⟨_, _, M4.out, hgB⟩) (by omega)).mono ?_
      rintro e w5 ⟨x, rfl, hs5, ho5⟩
      have HD5 := Lib.hid (HD4.out.turn hgs hs5 ho5)
      clear hs5 ho5 HD4 M4
      have hown5 := HD5.out.own
      obtain ⟨gr, rfl, hgr0⟩ : ∃ gr, A = some ⟨gr, 0, none⟩ ∧ w.heap.size ≤ gr := by
        rcases hown5.2 with ⟨_, h0⟩ | ⟨g', cap', cur', e, hb, _⟩
        · exact absurd h0 hl0
        · injection e with e1 e2 e3
          exact ⟨g', e1, hb⟩
      have HOW := Lib.hid hown5
      have hlen := vS_len Opr.len l
      have hki : (kn : Int) < (l.length : Int) := by omega
      have hfz : ∀ o, w5.frozen? ⟨gr, o, none⟩ = false := by
        rcases hown5.2 with ⟨_, h0⟩ | ⟨g', cap', cur', e, hb, hh, _⟩
        · exact absurd h0 hl0
        · injection e with e1 e2 e3
          injection e1 with e1
          injection e1 with e1
          subst e1
          exact fun o => frozen_of_row _ _ o _ _ hh
      obtain ⟨y, hy⟩ : ∃ y, l[kn]? = some y := ⟨_, List.getElem?_eq_getElem hkl⟩
      have hc := fun (j : Nat) (u : Value) (hj : j < 8) (hu : y.cells[j]? = some u) => (own_cellx hown5 (i := kn * 8 + j) (u := u) ((vS_get Opr.len l kn y hy j hj).trans hu)).1
      have y0 := hc 0 _ (by omega) rfl
      have y1 := hc 1 _ (by omega) rfl
      have y2 := hc 2 _ (by omega) rfl
      have y3 := hc 3 _ (by omega) rfl
      have y4 := hc 4 _ (by omega) rfl
      have y5 := hc 5 _ (by omega) rfl
      have y6 := hc 6 _ (by omega) rfl
      have y7 := hc 7 _ (by omega) rfl
      rw [Nat.add_zero] at y0
      clear hc hown5 hy hl0
      go_wp2
      go_ret2
      have h8 := own_setx (i := kn * 8 + 7) (.int .i64 x.r) (own_setx (i := kn * 8 + 6) (.int .i64 x.c) (own_setx (i := kn * 8 + 5) (.int .i64 x.ta) (own_setx (i := kn * 8 + 4) (.int .i64 x.tb) (own_setx (i := kn * 8 + 3) (.int .i64 x.fa) (own_setx (i := kn * 8 + 2) (.int .i64 x.fb) (own_setx (i := kn * 8 + 1) (.int .i64 x.d) (own_setx (i := kn * 8) (.int .i64 x.k) HOW.out (by omega)) (by omega)) (by omega)) (by omega)) (by omega)) (by omega)) (by omega)) (by omega)
      rw [vS_set8 hkl x] at h8
      have hp : gs < gr := by omega
      have hD8 : DSo w gs (K + 404 + 2 + 2 + 32) (.slice (some ⟨gr, 0, none⟩) l.length c) (l.set kn x) ((((((((w5.setCell ⟨gr, kn * 8, none⟩ (.int .i64 x.k)).setCell ⟨gr, kn * 8 + 1, none⟩ (.int .i64 x.d)).setCell ⟨gr, kn * 8 + 2, none⟩ (.int .i64 x.fb)).setCell ⟨gr, kn * 8 + 3, none⟩ (.int .i64 x.fa)).setCell ⟨gr, kn * 8 + 4, none⟩ (.int .i64 x.tb)).setCell ⟨gr, kn * 8 + 5, none⟩ (.int .i64 x.ta)).setCell ⟨gr, kn * 8 + 6, none⟩ (.int .i64 x.c)).setCell ⟨gr, kn * 8 + 7, none⟩ (.int .i64 x.r)) :=
        ⟨by rw [List.length_set]; exact h8,
         (((((((HD5.out.src.setNew hp _ _).setNew hp _ _).setNew hp _ _).setNew hp _ _).setNew hp _ _).setNew hp _ _).setNew hp _ _).setNew hp _ _,
         (((((((HD5.out.only.setNew hgr0 _ _).setNew hgr0 _ _).setNew hgr0 _ _).setNew hgr0 _ _).setNew hgr0 _ _).setNew hgr0 _ _).setNew hgr0 _ _).setNew hgr0 _ _⟩
      exact ⟨n, _, rfl, hD8.drawn (by rw [List.length_set]; omega) (by omega) hK⟩
  by_cases k3 : k = 3
  · subst k3
    clear k0 k1 k2
    by_cases hl1 : l.length ≤ 1
    · have hg0 : ¬ (1 : Int) < (l.length : Int) := by omega
      have HX := Lib.hid (HD3.out.drawn (K' := K + 500) (by omega) (by omega) hK)
      clear hl1 HD3 M3
      go_wp2
      go_ret2
      exact ⟨n, _, rfl, HX.out⟩
    · have hg0 : (1 : Int) < (l.length : Int) := by omega
      have hg1 : (1 : Int) ≤ (l.length : Int) := by omega
      have hown3 := HD3.out.own
      obtain ⟨gr, rfl, hgr0, hlc⟩ : ∃ gr, A = some ⟨gr, 0, none⟩ ∧ w.heap.size ≤ gr ∧ l.length ≤ c := by
        rcases hown3.2 with ⟨_, h0⟩ | ⟨g', cap', cur', e, hb, _, h3, _⟩
        · omega
        · injection e with e1 e2 e3
          subst e3
          exact ⟨g', e1, hb, h3⟩
      have hlci : (l.length : Int) ≤ (c : Int) := by omega
      have HR := Lib.hid (RdS.tail_ (RdS.of_own Opr.len (OwC.of_own hown3)) (by omega))
      have HC : Hid (CapOk (.slice (some ⟨gr, 0 + 1 * 8, none⟩) (l.length - 1) (c - 1))) := ⟨_, _, _, rfl, by omega⟩
      have HSS := Lib.hid (HD3.out.src.more (show K + 404 + 2 ≤ K + 500 by omega) hK)
      have HOO := Lib.hid HD3.out.only
      have HLL := Lib.hid (show l.tail.length ≤ 3000 by rw [List.length_tail]; omega)
      clear hl1 HD3 M3 hown3
      go_wp2
      go_ret2
      exact ⟨n, _, rfl, l.tail, HR.out, HC.out, HLL.out, HSS.out, HOO.out⟩
  by_cases k4 : k = 4
  · subst k4
    clear k0 k1 k2 k3
    go_wp2_with fail
    refine (one_any w3 gs 4 (K + 404 + 2) HD3.out.src (by omega)).mono ?_
    rintro e w4 ⟨b, rfl, hs4, ho4⟩
    have HD4 := Lib.hid (HD3.out.turn hgs hs4 ho4)
    clear hs4 ho4 HD3 M3
    cases b
    · have HX := Lib.hid (HD4.out.drawn (K' := K + 500) (by omega) (by omega) hK)
      go_wp2
      go_ret2
      exact ⟨n, _, rfl, HX.out⟩
    · go_wp2
      go_loopw [5] (fun v5 wr => ∃ (l2 : List Opr) (wq : World), wq = wr ∧ l2.length ≤ 1501 ∧ Hid (DSo w gs (K + 404 + 2 + 2) v5 l2 wq)) (fun v5 _ => 1501 - sLen v5)
      case atStart => exact ⟨l, _, rfl, by omega, HD4.out⟩
      case round =>
        obtain ⟨l2, wq, hwq, hl2, HQ⟩ := hrel
        subst hwq
        clear HD4
        obtain ⟨A6, c6, rfl⟩ := own_shape HQ.out.own
        by_cases hlt : l2.length ≤ 1500
        · have hli : (l2.length : Int) ≤ 1500 := by omega
          go_wp2_with (at_builtin; refine wpList_append_own_at _ rfl _ _ 39 rfl w.heap.size 52 io _ 8 64 Tryd.underlying39 hio ho0 ho1 ho2 rfl (by decide) _ _ _ rfl (HQ.out.own.alloc _) ⟨_, 0, none⟩ 1 1 (⟨7, 0, 0, 0, 0, 0, 0, 0⟩ : Opr).cells rfl rfl (new_cells' _ _ (by simp)) (by intro u hu; simp at hu; rcases hu with rfl | rfl <;> rfl) (by unfold maxLen; omega) (by omega) (by have := HQ.out.only.size; (try simp); omega) ?_)
          intro v' w5 hown5 hgr5 _ _
          have HD5 := Lib.hid (HQ.out.app (x := ⟨7, 0, 0, 0, 0, 0, 0, 0⟩) hgs hown5 hgr5)
          obtain ⟨A5', c5', rfl⟩ := own_shape hown5
          clear hown5 hgr5
          go_wp2
          refine ⟨⟨_, _, rfl, ?_, HD5.out⟩, ?_⟩
          · simp; omega
          · simp [sLen]; omega
        · have hli : ¬ (l2.length : Int) ≤ 1500 := by omega
          have HX := Lib.hid (HQ.out.drawn (K' := K + 500) (by omega) (by omega) hK)
          go_wp2
          go_ret2
          exact ⟨n, _, rfl, HX.out⟩
  · have e0 : (k == 0) = false := by simpa using k0
    have e1 : (k == 1) = false := by simpa using k1
    have e2 : (k == 2) = false := by simpa using k2
    have e3 : (k == 3) = false := by simpa using k3
    have e4 : (k == 4) = false := by simpa using k4
    have HX := Lib.hid (HD3.out.drawn (K' := K + 500) (by omega) (by omega) hK)
    clear k0 k1 k2 k3 k4 HD3 M3
    go_wp2
    go_ret2
    exact ⟨n, _, rfl, HX.out⟩
set_option maxHeartbeats 4000000 in
theorem l08DrawOps_any {w : World} {gs : Nat} {K : Int} (hS : Src w gs K) (hK : K + 500 ≤ 1000000000) :
    Calls Tryd.prog 76 #[.pointer (some ⟨gs, 0, none⟩)] w fun e w' => ∃ v, e = .returned v ∧ DrawnOs w gs (K + 500) v w' := by
  have HS := Lib.hid hS
  clear hS
  go_enter Tryd.func76, Tryd.ntmps76
  go_wp2_with fail
  refine (l08Bent_any HS.out hK).mono ?_
  rintro e w1 ⟨n, v, rfl, hd⟩
  have HD := Lib.hid hd
  obtain ⟨l, -, ⟨A, m, c, rfl, -⟩, -⟩ := hd
  go_wp2
  go_ret
  exact ⟨_, rfl, HD.out⟩

end Go.Proofs.YtccdnmafakaleaaDoor

/-
  Operations that are drawn: l09Draw, DrawPassesOf.
-/
namespace Go.Proofs.YtccdnmafakaleaaDoor
set_option linter.unusedVariables false
set_option linter.unusedSimpArgs false
open Go.RowKit

theorem op_one (x : Opr) : ∀ u ∈ x.cells, u.oneCell' = true := by
  intro u hu
  simp at hu
  rcases hu with rfl | rfl | rfl | rfl | rfl | rfl | rfl | rfl <;> rfl
theorem reads_op (w : World) (x : Opr) (T : TypeId) : Reads (w.alloc (.cells #[.int .i64 x.k, .int .i64 x.d, .int .i64 x.fb, .int .i64 x.fa, .int .i64 x.tb, .int .i64 x.ta, .int .i64 x.c, .int .i64 x.r] T)) (w.heap.size + 1) 8 (some ⟨w.heap.size, 0, none⟩) 1 x.cells :=
  ⟨rfl, fun _ => ⟨_, rfl, Nat.lt_succ_self _, new_cells' T x.cells rfl⟩⟩
theorem pick_lt {n x : Int} (h : PickOk n x) (hn : 1 ≤ n) : 0 ≤ x ∧ x < n := by
  refine ⟨h.1, ?_⟩
  rcases (by omega : 1 < n ∨ n ≤ 1) with h1 | h1
  · exact h.2.1 h1
  · have := h.2.2 h1; omega
set_option maxHeartbeats 16000000 in
set_option maxRecDepth 100000 in
theorem l09Draw_any {w : World} {gs : Nat} {K : Int} (hS : Src w gs K) (hK : K + 502 ≤ 1000000000) :
    Calls Tryd.prog 42 #[.pointer (some ⟨gs, 0, none⟩)] w fun e w' => ∃ v, e = .returned v ∧ DrawnOs w gs (K + 502) v w' := by
  obtain ⟨io, hio, ho0, ho1, ho2⟩ := info_parts info_op
  have HS := Lib.hid hS
  have hgs := hS.lt
  clear hS
  go_enter Tryd.func42, Tryd.ntmps42
  go_wp2_with fail
  refine (one_any w gs 3 K HS.out (by omega)).mono ?_
  rintro e w1 ⟨b, rfl, hs1, ho1'⟩
  have HS1 := Lib.hid hs1
  have HO1 := Lib.hid ho1'
  clear hs1 ho1' HS
  cases b
  case true =>
    go_wp2_with fail
    refine (l08DrawOps_any HS1.out (by omega)).mono ?_
    rintro e w2 ⟨v, rfl, l, hr, hc, hl, hs, ho⟩
    have HX : Hid (DrawnOs w gs (K + 502) v w2) := ⟨l, hr, hc, hl, by rw [show K + 502 = K + 2 + 500 by omega]; exact hs, HO1.out.trans ho⟩
    obtain ⟨A, m, c, rfl, -⟩ := hc
    clear hr hl hs ho HS1
    go_wp2
    go_ret
    exact ⟨_, rfl, HX.out⟩
  case false =>
    go_wp2_with fail
    have HD1 : Hid (DSo w gs (K + 2) (.slice (some ⟨w1.heap.size, 0, none⟩) 1 1) [⟨8, 1, 0, 0, 0, 0, 1, 0⟩] (w1.alloc (.cells #[.int .i64 8, .int .i64 1, .int .i64 0, .int .i64 0, .int .i64 0, .int .i64 0, .int .i64 1, .int .i64 0] 52))) :=
      ⟨World.ownsRow_lit (base := w.heap.size) (e := 52) (size := 8) w1 #[.int .i64 8, .int .i64 1, .int .i64 0, .int .i64 0, .int .i64 0, .int .i64 0, .int .i64 1, .int .i64 0] 1 HO1.out.size (by unfold maxLen; omega) rfl, HS1.out.alloc _, HO1.out.alloc _⟩
    clear HS1 HO1
    refine (pick_any _ gs 5 (K + 2) HD1.out.src (by omega)).mono ?_
    rintro e w2 ⟨k0, rfl, hk, hs2, ho2'⟩
    have HD2 := Lib.hid (HD1.out.turn hgs hs2 ho2')
    obtain ⟨hk0, hk5⟩ := pick_lt hk (by omega)
    obtain ⟨n0, rfl⟩ := Int.eq_ofNat_of_zero_le hk0
    have hwr : IntKind.i64.wrap (1 + (n0 : Int)) = ((n0 + 1 : Nat) : Int) := by rw [IntWalk.i64_in _ (by omega)]; omega
    clear hk hs2 ho2' HD1
    go_wp2
    clear hwr
    go_loopw [3, 4] (fun v3 v4 wr => ∃ (k : Nat) (l : List Opr) (Kq : Int) (wq : World), wq = wr ∧ v4 = .int .i64 (k : Int) ∧ k ≤ 5 ∧ l.length + 5 * k ≤ 26 ∧ Kq + 40 * (k : Int) ≤ K + 204 ∧ Hid (DSo w gs Kq v3 l wq)) (fun _ v4 _ => (intOf v4).toNat)
    case atStart => exact ⟨n0 + 1, _, _, _, rfl, rfl, by omega, by simp; omega, by omega, HD2.out⟩
    case round =>
      clear HD2
      obtain ⟨k, l, Kq, wq, hwq, rfl, hk5', hlk, hKq, HD⟩ := hrel
      subst hwq
      obtain ⟨A, c, rfl⟩ := own_shape HD.out.own
      by_cases hz : k = 0
      · subst hz
        have HX := Lib.hid (HD.out.drawn (K' := K + 502) (by omega) (by omega) hK)
        go_wp2
        go_ret
        exact ⟨_, rfl, HX.out⟩
      · have hlt0 : (0 : Int) < (k : Int) := by omega
        go_wp2_with fail
        refine (pick_any wq gs 4 Kq HD.out.src (by omega)).mono ?_
        rintro e w3 ⟨x, rfl, hx, hs3, ho3⟩
        have HD3 := Lib.hid (HD.out.turn hgs hs3 ho3)
        obtain ⟨hx0, hx4⟩ := pick_lt hx (by omega)
        clear hx hs3 ho3 HD
        by_cases x0 : x = 0
        · subst x0
          go_wp2_with fail
          refine (pick_any w3 gs 3 (Kq + 2) HD3.out.src (by omega)).mono ?_
          rintro e w4 ⟨y, rfl, hy, hs4, ho4⟩
          have HD4 := Lib.hid (HD3.out.turn hgs hs4 ho4)
          obtain ⟨hy0, hy3⟩ := pick_lt hy (by omega)
          have hwr : IntKind.i64.wrap (y - 1) = y - 1 := IntWalk.i64_in _ (by omega)
          clear hy hs4 ho4 HD3
          go_wp2_with (at_builtin; refine wpList_append_own_at _ rfl _ _ 39 rfl w.heap.size 52 io _ 8 64 Tryd.underlying39 hio ho0 ho1 ho2 rfl (by decide) _ _ _ rfl (HD4.out.own.alloc _) ⟨_, 0, none⟩ 1 1 (⟨7, 0, 0, 0, 0, 0, 0, y - 1⟩ : Opr).cells rfl rfl (new_cells' _ _ (by simp)) (op_one _) (by unfold maxLen; omega) (by omega) (by have := HD4.out.only.size; (try simp); omega) ?_)
          intro v' w5 hown5 hgr5 _ _
          have HD5 := Lib.hid (HD4.out.app (x := ⟨7, 0, 0, 0, 0, 0, 0, y - 1⟩) hgs hown5 hgr5)
          clear hown5 hgr5 HD4
          go_wp2
          exact ⟨⟨k - 1, _, Kq + 2 + 2, _, rfl, by go_num, by omega, by simp; omega, by omega, HD5.out⟩, by simp [intOf]; omega⟩
        by_cases x1 : x = 1
        · subst x1
          clear x0
          go_wp2_with fail
          refine (pick_any w3 gs 5 (Kq + 2) HD3.out.src (by omega)).mono ?_
          rintro e w4 ⟨y, rfl, hy, hs4, ho4⟩
          have HD4 := Lib.hid (HD3.out.turn hgs hs4 ho4)
          obtain ⟨hy0, hy5⟩ := pick_lt hy (by omega)
          obtain ⟨yn, rfl⟩ := Int.eq_ofNat_of_zero_le hy0
          have hwr : IntKind.i64.wrap (1 + (yn : Int)) = ((yn + 1 : Nat) : Int) := by rw [IntWalk.i64_in _ (by omega)]; omega
          clear hy hs4 ho4 HD3
          go_wp2
          clear hwr
          go_loopw [3, 5] (fun v3 v5 wr => ∃ (q : Nat) (l2 : List Opr) (Ki : Int) (wi : World), wi = wr ∧ v5 = .int .i64 (q : Int) ∧ q ≤ 5 ∧ l2.length + q ≤ l.length + 5 ∧ Ki + 6 * (q : Int) ≤ Kq + 34 ∧ Hid (DSo w gs Ki v3 l2 wi)) (fun _ v5 _ => (intOf v5).toNat)
          case atStart => exact ⟨yn + 1, l, Kq + 2 + 2, _, rfl, rfl, by omega, by omega, by omega, HD4.out⟩
          case round =>
            clear HD4
            obtain ⟨q, l2, Ki, wi, hwi, rfl, hq5, hlq, hKi, HDi⟩ := hrel
            subst hwi
            obtain ⟨A2, c2, rfl⟩ := own_shape HDi.out.own
            by_cases hqz : q = 0
            · subst hqz
              go_wp2
              exact ⟨⟨k - 1, l2, Ki, _, rfl, by go_num, by omega, by omega, by omega, HDi.out⟩, by simp [intOf]; omega⟩
            · have hq0 : (0 : Int) < (q : Int) := by omega
              go_wp2_with fail
              refine (l01DrawNeedle_any wi gs 10 Ki HDi.out.src (by omega) (by omega)).mono ?_
              rintro e w5 ⟨b, a, rfl, hb, ha0, ha1, hs5, ho5⟩
              have HD5 := Lib.hid (HDi.out.turn hgs hs5 ho5)
              have HLT := Lib.hid (fun (g : Nat) (hg : (Value.slice A2 l2.length c2).ownBlock = some g) => (World.ownsRow.lt HD5.out.own g hg).2)
              have hgs5 : gs < w5.heap.size := HD5.out.src.lt
              clear hs5 ho5 HDi
              have HD6 := Lib.hid (HD5.out.alloc (.cells #[.int .i64 b, .int .i64 a] 50))
              have HB6 := Lib.hid (Bx.new w5 [.int .i64 b, .int .i64 a] 50)
              clear HD5
              go_upto_region 23 with fail
              go_region_held3 (fun w' => w'.cell? ⟨w5.heap.size, 0, none⟩ = some (.int .i64 b) ∧ w'.cell? ⟨w5.heap.size, 1, none⟩ = some (.int .i64 a))
                (first | assumption | exact HB6.out.two | exact HB8.out.two | exact (HB7.out.alloc _).two | exact HB7.out.two)
                (first
                  | (refine step_append_any _ rfl (.tmp 82) (.tmp 91) 39 rfl w.heap.size 52 io _ 8 64 Tryd.underlying39 hio ho0 ho1 ho2 rfl (by decide) _ _ _ rfl (HD7.out.own.alloc _) _ (some ⟨w7.heap.size, 0, none⟩) 1 1 _ rfl (reads_op w7 ⟨4, 0, b, a, 3 - b, y, 0, 0⟩ _) (op_one _) (by unfold maxLen; omega) (by omega) (by have := HD7.out.only.size; (try simp); omega) ?_; intro v8 w8 hown8 hg8 hat8; have HB8 := Lib.hid ((HB7.out.alloc _).keep (hg8.block _ (HB7.out.alloc _).2.2 (fun e => by have := HLT.out _ e.symm; omega)) hg8.size))
                  | (go_at_call 79; refine (otherBed_s b hb _).mono ?_; rintro e w' ⟨rfl, rfl⟩)
                  | (go_at_call 77; refine (pick_any _ gs 10 (Ki + 4) HD6.out.drew.src (by omega)).mono ?_; rintro e w7 ⟨y, rfl, hy, hs7, ho7⟩; have HD7 := Lib.hid (HD6.out.drew.turn hgs hs7 ho7); have HB7 := Lib.hid (HB6.out.drew.only ho7 (by omega)); clear hs7 ho7))
              all_goals
                have HD8 := Lib.hid (HD7.out.app (x := ⟨4, 0, b, a, 3 - b, y, 0, 0⟩) hgs hown8 hg8)
                clear hown8 hg8 hat8 HD7 HB7 HB8 HD6 HB6
                go_wp2
                exact ⟨⟨q - 1, _, Ki + 4 + 2, _, rfl, by go_num, by omega, by simp; omega, by omega, HD8.out⟩, by simp [intOf]; omega⟩
        · have e0 : (x == 0) = false := by simpa using x0
          have e1 : (x == 1) = false := by simpa using x1
          clear x0 x1 hx0 hx4
          go_wp2_with fail
          clear e0 e1
          refine (pick_any w3 gs 2 (Kq + 2) HD3.out.src (by omega)).mono ?_
          rintro e w4 ⟨y, rfl, hy, hs4, ho4⟩
          have HD4 := Lib.hid (HD3.out.turn hgs hs4 ho4)
          obtain ⟨hy0, hy2⟩ := pick_lt hy (by omega)
          have hwa : IntKind.i64.wrap (2 * y) = 2 * y := IntWalk.i64_in _ (by omega)
          have hwb : IntKind.i64.wrap (1 - 2 * y) = 1 - 2 * y := IntWalk.i64_in _ (by omega)
          have hwc : IntKind.i64.wrap (4 * (1 - 2 * y)) = 4 * (1 - 2 * y) := IntWalk.i64_in _ (by omega)
          have hwd : IntKind.i64.wrap (4 - 4 * (1 - 2 * y)) = 4 - 4 * (1 - 2 * y) := IntWalk.i64_in _ (by omega)
          clear hy hs4 ho4 HD3
          go_wp2_with fail
          clear hwa hwb hwc hwd
          have hgs4 : gs < w4.heap.size := HD4.out.src.lt
          refine (among4m (HD4.out.alloc _).src (by omega) (Bx.new w4 [_, _, _, _] _) (by omega)).mono ?_
          rintro e w5 ⟨kd, rfl, -, hs5, ho5⟩
          have HD5 := Lib.hid ((HD4.out.alloc _).turn hgs hs5 ho5)
          clear hs5 ho5 HD4 hgs4
          go_wp2_with fail
          refine (pick_any w5 gs 5 (Kq + 2 + 2 + 2) HD5.out.src (by omega)).mono ?_
          rintro e w6 ⟨z, rfl, hzz, hs6, ho6⟩
          have HD6 := Lib.hid (HD5.out.turn hgs hs6 ho6)
          obtain ⟨hz0, hz5⟩ := pick_lt hzz (by omega)
          obtain ⟨zn, rfl⟩ := Int.eq_ofNat_of_zero_le hz0
          have hwr : IntKind.i64.wrap (1 + (zn : Int)) = ((zn + 1 : Nat) : Int) := by rw [IntWalk.i64_in _ (by omega)]; omega
          clear hzz hs6 ho6 HD5
          go_wp2
          clear hwr
          go_loopw [3, 8, 10] (fun v3 v8 v10 wr => ∃ (q : Nat) (at_ : Int) (l2 : List Opr) (Ki : Int) (wi : World), wi = wr ∧ v10 = .int .i64 (q : Int) ∧ v8 = .int .i64 at_ ∧ -2 ≤ at_ ∧ at_ ≤ 11 ∧ q ≤ 5 ∧ l2.length + q ≤ l.length + 5 ∧ Ki + 2 * (q : Int) ≤ Kq + 18 ∧ Hid (DSo w gs Ki v3 l2 wi)) (fun _ _ v10 _ => (intOf v10).toNat)
          case atStart => exact ⟨zn + 1, _, l, Kq + 2 + 2 + 2 + 2, _, rfl, rfl, rfl, by omega, by omega, by omega, by omega, by omega, HD6.out⟩
          case round =>
            clear HD6
            obtain ⟨q, at_, l2, Ki, wi, hwi, rfl, rfl, hat0, hat1, hq5, hlq, hKi, HDi⟩ := hrel
            subst hwi
            obtain ⟨A2, c2, rfl⟩ := own_shape HDi.out.own
            by_cases hqz : q = 0
            · subst hqz
              go_wp2
              exact ⟨⟨k - 1, l2, Ki, _, rfl, by go_num, by omega, by omega, by omega, HDi.out⟩, by simp [intOf]; omega⟩
            · have hq0 : (0 : Int) < (q : Int) := by omega
              cases hin : inB 0 at_ 9
              · have HIN := Lib.hid hin
                clear hin
                go_wp2_with (go_at_call 54; refine (l00In_s _ _ _ _).mono ?_; rintro e w' ⟨rfl, rfl⟩; rw [HIN.out])
                exact ⟨⟨k - 1, l2, Ki, _, rfl, by go_num, by omega, by omega, by omega, HDi.out⟩, by simp [intOf]; omega⟩
              · have HIN := Lib.hid hin
                obtain ⟨ha0, ha9⟩ := inB_iff.1 hin
                clear hin
                go_wp2_with (first
                  | (go_at_call 54; refine (l00In_s _ _ _ _).mono ?_; rintro e w' ⟨rfl, rfl⟩; rw [HIN.out])
                  | (at_builtin; refine wpList_append_own_at _ rfl _ _ 39 rfl w.heap.size 52 io _ 8 64 Tryd.underlying39 hio ho0 ho1 ho2 rfl (by decide) _ _ _ rfl (HDi.out.own.alloc _) ⟨_, 0, none⟩ 1 1 (⟨kd, 1 - 2 * y, 1, at_, 0, 0, 1, 0⟩ : Opr).cells rfl rfl (new_cells' _ _ (by simp)) (op_one _) (by unfold maxLen; omega) (by omega) (by have := HDi.out.only.size; (try simp); omega) ?_))
                intro v' w7 hown7 hgr7 _ _
                have HD7 := Lib.hid (HDi.out.app (x := ⟨kd, 1 - 2 * y, 1, at_, 0, 0, 1, 0⟩) hgs hown7 hgr7)
                clear hown7 hgr7 HDi
                have hgs7 : gs < w7.heap.size := HD7.out.src.lt
                go_wp2_with fail
                refine (among4m (HD7.out.alloc _).src (by omega) (Bx.new w7 [_, _, _, _] _) (by omega)).mono ?_
                rintro e w8 ⟨f, rfl, hf, hs8, ho8⟩
                have HD8 := Lib.hid ((HD7.out.alloc _).turn hgs hs8 ho8)
                have hf2 : 0 ≤ f ∧ f ≤ 2 := by simp at hf; omega
                obtain ⟨mf, hmf, hm0, hm1⟩ : ∃ mf : Int, (1 - 2 * y) * f = mf ∧ -2 ≤ mf ∧ mf ≤ 2 := by
                  refine ⟨_, rfl, ?_⟩
                  rcases (by omega : y = 0 ∨ y = 1) with rfl | rfl <;> omega
                have hwm : IntKind.i64.wrap ((1 - 2 * y) * f) = mf := by rw [hmf]; exact IntWalk.i64_in _ (by omega)
                have hwn : IntKind.i64.wrap (at_ + mf) = at_ + mf := IntWalk.i64_in _ (by omega)
                clear hf hs8 ho8 HD7 hmf
                go_wp2
                exact ⟨⟨q - 1, at_ + mf, _, Ki + 2, _, rfl, by go_num, rfl, by omega, by omega, by omega, by simp; omega, by omega, HD8.out⟩, by simp [intOf]; omega⟩
set_option maxHeartbeats 4000000 in
theorem DrawPassesOf_any {w : World} {v : Value} (h : RdB w w.heap.size v) :
    Calls Tryd.prog 11 #[v] w fun e w' => ∃ u l, e = .returned u ∧ RdO w' w'.heap.size u l ∧ CapOk u ∧ l.length ≤ 3000 ∧ Below w.heap.size w w' := by
  have HB := Lib.hid h
  obtain ⟨A, n, c, rfl, -⟩ := h
  go_enter Tryd.func11, Tryd.ntmps11
  go_wp2_with fail
  refine (l00From_any w _ HB.out).mono ?_
  rintro e w1 ⟨rfl, hs1, hb1, hz1⟩
  have HS1 := Lib.hid hs1
  have HB1 := Lib.hid hb1
  clear hs1 hb1 hz1
  go_wp2_with fail
  refine (l09Draw_any HS1.out (by omega)).mono ?_
  rintro e w2 ⟨u, rfl, l, hr, hc, hl, hs, ho⟩
  have HX : Hid (RdO w2 w2.heap.size u l ∧ CapOk u ∧ l.length ≤ 3000 ∧ Below w.heap.size w w2) := ⟨hr, hc, hl, HB1.out.trans (ho.below (Nat.le_refl _) HB1.out.size)⟩
  obtain ⟨A2, m2, c2, rfl, -⟩ := hc
  clear hr hl hs ho HS1
  go_wp2
  go_ret
  exact ⟨_, l, rfl, HX.out⟩

end Go.Proofs.YtccdnmafakaleaaDoor
