/-
  A block: a braid and a list of stitches. Its size, its equality.
-/
import Derived.Test.YtfeonaocmnpkcaaBraid
import Derived.Test.YtfeonaocmnpkcaaBraidE
import Derived.Test.YtfeonaocmnpkcaaSame
import Derived.Test.YtfeonaocmnpkcaaOpenBr
import Derived.Test.YtfeonaocmnpkcaaNst
namespace Go.Proofs.Ytfeonaocmnpkcaa
set_option linter.unusedVariables false
set_option linter.unusedSimpArgs false
open Go.RowKit

structure Bk where
  b : Br
  e : List Ev
deriving DecidableEq
/-- A block by its value: the cells of a struct within a struct lie flat. -/
def RdBkV (w : World) (B : Nat) (v : Value) (x : Bk) : Prop := ∃ s t, v = .agg #[.int .i64 x.b.n, s, t] ∧ RdI w B s x.b.w ∧ RdE w B t x.e
/-- A block by its three cells. -/
def RdBk (w : World) (B : Nat) (us : List Value) (x : Bk) : Prop := ∃ s t, us = [.int .i64 x.b.n, s, t] ∧ RdI w B s x.b.w ∧ RdE w B t x.e
theorem RdBk.val {w : World} {B : Nat} {u0 u1 u2 : Value} {x : Bk} (h : RdBk w B [u0, u1, u2] x) : RdBkV w B (.agg #[u0, u1, u2]) x := by
  obtain ⟨s, t, e, h1, h2⟩ := h
  injection e with e0 e
  injection e with e1 e
  injection e with e2 e
  subst e0 e1 e2
  exact ⟨_, _, rfl, h1, h2⟩
theorem RdBkV.below {w w' : World} {B : Nat} {v : Value} {x : Bk} (h : RdBkV w B v x) (hb : Below B w w') : RdBkV w' B v x := by
  obtain ⟨s, t, e, h1, h2⟩ := h
  exact ⟨s, t, e, h1.below hb, h2.below hb⟩
theorem RdBkV.more {w : World} {B B' : Nat} {v : Value} {x : Bk} (h : RdBkV w B v x) (hB : B ≤ B') : RdBkV w B' v x := by
  obtain ⟨s, t, e, h1, h2⟩ := h
  exact ⟨s, t, e, h1.more hB, h2.more hB⟩
theorem RdE.shape' {w : World} {B : Nat} {v : Value} {l : List Ev} (h : RdE w B v l) : ∃ A n c, v = .slice A n c := by
  obtain ⟨A, n, c, rfl, _⟩ := h
  exact ⟨A, n, c, rfl⟩
/-- What is left of a size behind a block, or -1. -/
def szBk (left : Int) (x : Bk) : Int := if szBr left x.b < 0 then -1 else szOf (szBr left x.b) x.e.length

set_option maxHeartbeats 1000000 in
set_option maxRecDepth 100000 in
theorem szBlock_any (v : Value) (x : Bk) (left : Int) (w : World) (hl : RdBkV w w.heap.size v x) (h0 : 0 ≤ left) (h1 : left ≤ 1048576) :
    Calls Try.prog 8 #[v, .int .i64 left] w fun e w' => e = .returned (.int .i64 (szBk left x)) ∧ Below w.heap.size w w' := by
  obtain ⟨s, t, rfl, hs, ht⟩ := hl
  obtain ⟨A0, n0, c0, rfl⟩ := hs.shape
  obtain ⟨A1, n1, c1, rfl⟩ := ht.shape'
  have HS := Lib.hid hs
  have HT := Lib.hid ht
  clear hs ht
  have HB0 := Lib.hid (show Below w.heap.size w (w.alloc (.cells #[.int .i64 x.b.n, .slice A0 n0 c0, .slice A1 n1 c1] 27)) from (Below.refl _ _).alloc (Nat.le_refl _) _)
  have hca : CellsAt (w.alloc (.cells #[.int .i64 x.b.n, .slice A0 n0 c0, .slice A1 n1 c1] 27)) w.heap.size 0 [.int .i64 x.b.n, .slice A0 n0 c0, .slice A1 n1 c1] := CellsAt.of_alloc
  have HCA := Lib.hid hca
  have HQ := Lib.hid (szBraid_any _ x.b left _ ⟨_, rfl, HS.out.up HB0.out HB0.out.size⟩ h0 h1)
  clear hca
  obtain ⟨z, hz⟩ : ∃ z, szBr left x.b = z := ⟨_, rfl⟩
  rw [hz] at HQ
  by_cases hp : z < 0
  · have HE := Lib.hid (show szBk left x = -1 by unfold szBk; rw [hz, if_pos hp])
    clear hz
    rw [HE.out]
    go_enter Try.func8, Try.ntmps8
    go_wp2_with fail
    refine HQ.out.mono ?_
    rintro e w1 ⟨rfl, hb⟩
    have HB := Lib.hid (HB0.out.trans (hb.mono HB0.out.size))
    clear hb
    go_wp2
    go_ret
    exact ⟨rfl, HB.out⟩
  · have HE := Lib.hid (show szBk left x = szOf z x.e.length by unfold szBk; rw [hz, if_neg hp])
    obtain ⟨-, hz1⟩ := szBr_pos' hz (by omega)
    have hz2 : z ≤ 1048576 := by omega
    have hz0 : 0 ≤ z := by omega
    clear hz hz1
    rw [HE.out]
    obtain ⟨y, hy⟩ : ∃ y, szOf z x.e.length = y := ⟨_, rfl⟩
    have HY := Lib.hid hy
    have hym : y < 0 → y = -1 := by intro h; rw [← hy] at h ⊢; unfold szOf at h ⊢; split at h <;> (try split) <;> omega
    rw [hy]
    clear hy
    go_enter Try.func8, Try.ntmps8
    go_wp2_with fail
    refine HQ.out.mono ?_
    rintro e w1 ⟨rfl, hb⟩
    obtain ⟨y0, y1, y2⟩ := (HCA.out.below hb (by simp)).three
    have HB := Lib.hid (HB0.out.trans (hb.mono HB0.out.size))
    clear hb
    go_wp2_with fail
    refine (szEventS_any _ x.e _ _ _ ((HT.out.below HB.out).more HB.out.size) hz0 hz2).mono ?_
    rintro e w2 ⟨rfl, rfl⟩
    rw [HY.out]
    by_cases hy0 : y < 0
    · have hy1 := hym hy0
      subst hy1
      go_wp2
      go_ret
      exact ⟨rfl, HB.out⟩
    · go_wp2
      go_ret
      exact ⟨rfl, HB.out⟩

set_option maxHeartbeats 1000000 in
set_option maxRecDepth 100000 in
theorem eqBlock_any (v u : Value) (a b : Bk) (w : World) (hl : RdBkV w w.heap.size v a) (hm : RdBkV w w.heap.size u b) :
    Calls Try.prog 12 #[v, u] w fun e w' => e = .returned (.bool (decide (a = b))) ∧ Below w.heap.size w w' := by
  obtain ⟨s, t, rfl, hs, ht⟩ := hl
  obtain ⟨p, q, rfl, hp, hq⟩ := hm
  obtain ⟨A0, n0, c0, rfl⟩ := hs.shape
  obtain ⟨A1, n1, c1, rfl⟩ := ht.shape'
  obtain ⟨A2, n2, c2, rfl⟩ := hp.shape
  obtain ⟨A3, n3, c3, rfl⟩ := hq.shape'
  obtain ⟨ab, ae⟩ := a
  obtain ⟨bb, be⟩ := b
  have HS := Lib.hid hs
  have HT := Lib.hid ht
  have HP := Lib.hid hp
  have HQ := Lib.hid hq
  clear hs ht hp hq
  dsimp only at HS HT HP HQ
  have HB0 := Lib.hid (show Below w.heap.size w ((w.alloc (.cells #[.int .i64 ab.n, .slice A0 n0 c0, .slice A1 n1 c1] 33)).alloc (.cells #[.int .i64 bb.n, .slice A2 n2 c2, .slice A3 n3 c3] 33)) from ((Below.refl _ _).alloc (Nat.le_refl _) _).alloc (by simp) _)
  have hca : CellsAt ((w.alloc (.cells #[.int .i64 ab.n, .slice A0 n0 c0, .slice A1 n1 c1] 33)).alloc (.cells #[.int .i64 bb.n, .slice A2 n2 c2, .slice A3 n3 c3] 33)) w.heap.size 0 [.int .i64 ab.n, .slice A0 n0 c0, .slice A1 n1 c1] := by
    intro j u hu; rcases j with _ | _ | _ | j <;> simp at hu <;> subst hu <;> simp [go_sem]
  have hcb : CellsAt ((w.alloc (.cells #[.int .i64 ab.n, .slice A0 n0 c0, .slice A1 n1 c1] 33)).alloc (.cells #[.int .i64 bb.n, .slice A2 n2 c2, .slice A3 n3 c3] 33)) (w.heap.size + 1) 0 [.int .i64 bb.n, .slice A2 n2 c2, .slice A3 n3 c3] := by
    intro j u hu; rcases j with _ | _ | _ | j <;> simp at hu <;> subst hu <;> simp [go_sem]
  have HCA := Lib.hid hca
  have HCB := Lib.hid hcb
  clear hca hcb
  have HK := Lib.hid (eqBraid_any _ _ ab bb _ ⟨_, rfl, HS.out.up HB0.out HB0.out.size⟩ ⟨_, rfl, HP.out.up HB0.out HB0.out.size⟩)
  by_cases h : ab = bb
  · have hd : decide ((⟨ab, ae⟩ : Bk) = ⟨bb, be⟩) = decide (ae = be) := by simp [h]
    rw [hd]
    rw [show decide (ab = bb) = true by simp [h]] at HK
    clear hd
    subst h
    cases hz : decide (ae = be)
    all_goals
      have HZ := Lib.hid hz
      clear hz
      go_enter Try.func12, Try.ntmps12
      go_wp2_with fail
      refine HK.out.mono ?_
      rintro e w1 ⟨rfl, hb⟩
      obtain ⟨y0, y1, y2⟩ := (HCA.out.below hb (by simp; try omega)).three
      obtain ⟨x0, x1, x2⟩ := (HCB.out.below hb (by simp; try omega)).three
      have HB := Lib.hid (HB0.out.trans (hb.mono HB0.out.size))
      clear hb
      go_wp2_with fail
      refine (eqEventS_any _ _ ae be _ _ ((HT.out.below HB.out).more HB.out.size) ((HQ.out.below HB.out).more HB.out.size) (Nat.le_refl _)).mono ?_
      rintro e w2 ⟨rfl, hb⟩
      rw [HZ.out]
      have HB2 := Lib.hid (HB.out.trans (hb.mono HB.out.size))
      clear hb
      go_wp2
      go_ret
      exact ⟨rfl, HB2.out⟩
  · have hd : decide ((⟨ab, ae⟩ : Bk) = ⟨bb, be⟩) = false := by simp [h]
    rw [hd]
    rw [show decide (ab = bb) = false by simp [h]] at HK
    clear h hd
    go_enter Try.func12, Try.ntmps12
    go_wp2_with fail
    refine HK.out.mono ?_
    rintro e w1 ⟨rfl, hb⟩
    have HB := Lib.hid (HB0.out.trans (hb.mono HB0.out.size))
    clear hb
    go_wp2
    go_ret
    exact ⟨rfl, HB.out⟩

/-- A block of the call's own, by its value: the word's row lies below 'm', the stitches' row above. -/
def OwBkV (w : World) (lo hi : Nat) (v : Value) (x : Bk) : Prop := ∃ s t m, v = .agg #[.int .i64 x.b.n, s, t] ∧ lo ≤ m ∧ m ≤ hi ∧ OwC w lo m 2 1 s x.b.w.length (vI x.b.w) ∧ OwC w m hi 61 6 t x.e.length (vE x.e)

set_option maxHeartbeats 2000000 in
set_option maxRecDepth 100000 in
theorem toBlock_any (v : Value) (x : Bk) (w : World) (hl : RdBkV w w.heap.size v x) (hw : x.b.w.length ≤ 1048576) (he : x.e.length ≤ 1048576) :
    Calls Try.prog 10 #[v] w fun e w' => ∃ v', e = .returned v' ∧ OwBkV w' w.heap.size w'.heap.size v' x ∧ Below w.heap.size w w' := by
  obtain ⟨s, t, rfl, hs, ht⟩ := hl
  obtain ⟨A0, n0, c0, rfl⟩ := hs.shape
  obtain ⟨A1, n1, c1, rfl⟩ := ht.shape'
  have HS := Lib.hid hs
  have HT := Lib.hid ht
  clear hs ht
  obtain ⟨W0, hW0⟩ : ∃ W0, ((w.alloc (.cells #[.int .i64 x.b.n, .slice A0 n0 c0, .slice A1 n1 c1] 27)).alloc (.cells #[.int .i64 0, .slice none 0 0, .slice none 0 0] 33)).alloc (.cells #[.int .i64 0, .slice none 0 0, .slice none 0 0] 33) = W0 := ⟨_, rfl⟩
  have HB0 := Lib.hid (show Below w.heap.size w W0 by rw [← hW0]; exact ((Below.refl _ _).alloc (Nat.le_refl _) _).alloc (by simp) _ |>.alloc (by simp; omega) _)
  have HSZ := Lib.hid (show W0.heap.size = w.heap.size + 3 by rw [← hW0]; simp)
  have hcx : CellsAt W0 w.heap.size 0 [.int .i64 x.b.n, .slice A0 n0 c0, .slice A1 n1 c1] := by
    intro j u hu; rw [← hW0]; rcases j with _ | _ | _ | j <;> simp at hu <;> subst hu <;> simp [go_sem]
  have hcr : CellsAt W0 (w.heap.size + 1) 0 [.int .i64 0, .slice none 0 0, .slice none 0 0] := by
    intro j u hu; rw [← hW0]; rcases j with _ | _ | _ | j <;> simp at hu <;> subst hu <;> simp [go_sem]
  have hcb : CellsAt W0 (w.heap.size + 2) 0 [.int .i64 0, .slice none 0 0, .slice none 0 0] := by
    intro j u hu; rw [← hW0]; rcases j with _ | _ | _ | j <;> simp at hu <;> subst hu <;> simp [go_sem]
  have hfr : ∀ b o, w.heap.size ≤ b → b < w.heap.size + 3 → W0.frozen? ⟨b, o, none⟩ = false := by
    intro b o h1 h2
    rw [← hW0]
    obtain rfl | rfl | rfl : b = w.heap.size ∨ b = w.heap.size + 1 ∨ b = w.heap.size + 2 := by omega
    all_goals simp [go_sem]
  have HCX := Lib.hid hcx
  have HCR := Lib.hid hcr
  have HCB := Lib.hid hcb
  have HFR := Lib.hid hfr
  have HQ := Lib.hid (toBraid_any _ x.b W0 ⟨_, rfl, HS.out.up HB0.out HB0.out.size⟩ hw)
  obtain ⟨k0, k1, k2⟩ := hcx.three
  clear hcx hcr hcb hfr
  go_enter Try.func10, Try.ntmps10
  go_wp2_with fail
  refine HQ.out.mono ?_
  rintro e w1 ⟨v1, rfl, ⟨s1, rfl, ho⟩, hb⟩
  obtain ⟨A2, c2, rfl, -⟩ := ho.cells
  have hz1 : w.heap.size + 3 ≤ w1.heap.size := by have := hb.size; rw [HSZ.out] at this; exact this
  have HX1 := Lib.hid (HCX.out.below hb (by rw [HSZ.out]; omega))
  have HR1 := Lib.hid (HCR.out.below hb (by rw [HSZ.out]; omega))
  have HY1 := Lib.hid (HCB.out.below hb (by rw [HSZ.out]; omega))
  have HF1 := Lib.hid (show ∀ b o, w.heap.size ≤ b → b < w.heap.size + 3 → w1.frozen? ⟨b, o, none⟩ = false from fun b o h1 h2 => ((bcell hb).2 b o (by rw [HSZ.out]; omega)).trans (HFR.out b o h1 h2))
  have HB1 := Lib.hid (HB0.out.trans (hb.mono HB0.out.size))
  have HO1 := Lib.hid ho
  obtain ⟨x0, x1, x2⟩ := HX1.out.three
  obtain ⟨y0, y1, y2⟩ := HY1.out.three
  have f20 := fun o => HF1.out (w.heap.size + 2) o (by omega) (by omega)
  clear hb ho
  go_wp2_with fail
  refine (toEventS_any _ x.e _ (((HT.out.below HB1.out).below (((Below.refl w.heap.size w1).setCell (by simp; try omega) _).setCell (by simp; try omega) _)).more (by simp; omega)) he).mono ?_
  rintro e w2 ⟨v2, rfl, ho, hb⟩
  obtain ⟨A3, c3, rfl, -⟩ := ho.cells
  have hz2 : w1.heap.size ≤ w2.heap.size := by have := hb.size; simpa using this
  have hy : CellsAt _ (w.heap.size + 1 + 1) 0 [.int .i64 x.b.n, .slice A2 x.b.w.length c2, .slice none 0 0] := ((HY1.out.set 0 (.int .i64 x.b.n)).set 1 (.slice A2 x.b.w.length c2))
  have hr : CellsAt _ (w.heap.size + 1) 0 [.int .i64 0, .slice none 0 0, .slice none 0 0] := ((HR1.out.far (p := ⟨w.heap.size + 1 + 1, 0, none⟩) (by simp) (.int .i64 x.b.n)).far (p := ⟨w.heap.size + 1 + 1, 1, none⟩) (by simp) (.slice A2 x.b.w.length c2))
  obtain ⟨p0, p1, p2⟩ := (hy.below hb (by simp; omega)).three
  obtain ⟨q0, q1, q2⟩ := (hr.below hb (by simp; omega)).three
  have g2 : ∀ o, w2.frozen? ⟨w.heap.size + 1 + 1, o, none⟩ = false := fun o => ((bcell hb).2 _ o (by simp; omega)).trans (by simp [go_sem]; exact HF1.out (w.heap.size + 1 + 1) o (by omega) (by omega))
  have g1 : ∀ o, w2.frozen? ⟨w.heap.size + 1, o, none⟩ = false := fun o => ((bcell hb).2 _ o (by simp; omega)).trans (by simp [go_sem]; exact HF1.out (w.heap.size + 1) o (by omega) (by omega))
  have HO2 := Lib.hid ho
  have HB2 := Lib.hid (show Below w.heap.size w w2 from (HB1.out.trans (((Below.refl w.heap.size w1).setCell (by simp; try omega) _).setCell (by simp; try omega) _)).trans (hb.mono (by simp; omega)))
  have HA2 := Lib.hid (show OwC w2 W0.heap.size w1.heap.size 2 1 (.slice A2 x.b.w.length c2) x.b.w.length (vI x.b.w) from (HO1.out.only (((Only.refl w.heap.size (w.heap.size + 3) w1).setCell (p := ⟨w.heap.size + 1 + 1, 0, none⟩) (by simp; try omega) (by simp; try omega) (.int .i64 x.b.n)).setCell (p := ⟨w.heap.size + 1 + 1, 1, none⟩) (by simp; try omega) (by simp; try omega) (.slice A2 x.b.w.length c2)) (.inr (by rw [HSZ.out]; omega)) (Nat.le_refl _)).below (hb.mono (by simp)))
  clear hb ho hy hr x0 x1 x2 y0 y1 y2 f20 k0 k1 k2
  go_wp2
  refine bodyPost_ret (v := .agg #[.int .i64 x.b.n, .slice A2 x.b.w.length c2, .slice A3 x.e.length c3]) (by simp [results, Try.results10, go_sem, q0, q1, q2, p0, p1, p2, World.cell?_setCell_other]) rfl ⟨_, rfl, ⟨_, _, w1.heap.size, rfl, by omega, by simp; omega, ?_, ?_⟩, ?_⟩
  · exact (HA2.out.only (((((Only.refl w.heap.size (w.heap.size + 3) w2).setCell (by simp; try omega) (by simp; try omega) _).setCell (by simp; try omega) (by simp; try omega) _).setCell (by simp; try omega) (by simp; try omega) _).setCell (by simp; try omega) (by simp; try omega) _) (.inr (by rw [HSZ.out]; omega)) (by omega)).wide (by rw [HSZ.out]; omega) (Nat.le_refl _)
  · exact (HO2.out.only (((((Only.refl w.heap.size (w.heap.size + 3) w2).setCell (by simp; try omega) (by simp; try omega) _).setCell (by simp; try omega) (by simp; try omega) _).setCell (by simp; try omega) (by simp; try omega) _).setCell (by simp; try omega) (by simp; try omega) _) (.inr (by simp; omega)) (Nat.le_refl _)).wide (by simp) (by simp)
  · exact (((HB2.out.setCell (by simp; try omega) _).setCell (by simp; try omega) _).setCell (by simp; try omega) _).setCell (by simp; try omega) _

end Go.Proofs.Ytfeonaocmnpkcaa
