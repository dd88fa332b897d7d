/-
  Texts joined: Weak1, ExE, ExG.
-/
import Derived.Test.YthhpjgdeehcgjaaGreatPk5
import Derived.Shelf.SortM.Plain
import Derived.Shelf.SlGeneric
import Derived.Ground.SlgmProg
import Derived.Test.YthhpjgdeehcgjaaGreatPk20
import Derived.Test.YthhpjgdeehcgjaaGreatPk21
/-
  The library's slices.Sort at a row of the call's own numbers.
-/
namespace Go.Proofs.YthhpjgdeehcgjaaGreat
set_option linter.unusedVariables false
set_option linter.unusedSimpArgs false
open Go.Sort Go.Shelf Go.RowKit

abbrev encI : Int → Value := Value.int .i64
theorem holds_ints {w : World} {g : Nat} {cur : Array Value} {e : TypeId} {zs : List Int} (hb : w.heap[g]? = some (.cells cur e (0, 0))) (ht : cur.toList.take zs.length = zs.map encI) : Holds encI w g 0 zs.toArray := by
  intro j hj
  have hj' : j < zs.length := by simpa using hj
  refine ⟨?_, by simp [World.frozen?, hb]⟩
  have h1 : (cur.toList.take zs.length)[j]? = (zs.map encI)[j]? := by rw [ht]
  rw [List.getElem?_take_of_lt hj'] at h1
  simp only [World.cell?, hb, Nat.zero_add]
  simp only [Option.isSome_none, Bool.false_eq_true, if_false]
  rw [← Array.getElem?_toList, h1]
  simp [hj']
theorem heap_sortedI {w : World} {g n : Nat} {os : Array Obj} {cur : Array Value} {e : TypeId} {fr : Nat × Nat} (d : Array Int) (hb : w.heap[g]? = some (.cells cur e fr)) :
    (grow (putRow encI (Sort.ahead w n) g 0 d) os).heap[g]? = some (.cells (putCells encI 0 d cur) e fr) := by
  have hg : g < w.heap.size := (Array.getElem?_eq_some_iff.1 hb).1
  rw [heap_grow_old _ _ (by simpa using hg)]
  simp [putRow, mapBlock, Sort.ahead, Array.getElem?_modify, hb, onCells]
theorem grown_sortedI {w : World} {g n : Nat} {os : Array Obj} (d : Array Int) : w.grownBy (grow (putRow encI (Sort.ahead w n) g 0 d) os) (some g) := by
  refine ⟨rfl, rfl, rfl, by simp, fun k hk hne => ?_⟩
  rw [heap_grow_old _ _ (by simpa using hk)]
  have : g ≠ k := fun e => hne (by rw [e])
  simp [putRow, mapBlock, Sort.ahead, Array.getElem?_modify, this]
theorem take_putI (cur : Array Value) (ts : List Int) (h : ts.length ≤ cur.size) : (putCells encI 0 ts.toArray cur).toList.take ts.length = ts.map encI := by
  apply List.ext_getElem?
  intro j
  by_cases hj : j < ts.length
  · rw [List.getElem?_take_of_lt hj, Array.getElem?_toList]
    simp [putCells, hj, show j < cur.size by omega]
  · rw [List.getElem?_take_eq_none (by omega), List.getElem?_eq_none (by simp; omega)]

shelf_lay_g SlLaysM.n5 Slgm 5 at Tryz 83 as sortLay

theorem sortI_any (g cap : Nat) (zs : List Int) (w : World) (B E : Nat) (h : w.ownsRow B E 1 (.slice (some ⟨g, 0, none⟩) zs.length cap) zs.length (vI zs)) (hz : zs.length < 4611686018427387904) :
    Calls Tryz.prog 83 #[.slice (some ⟨g, 0, none⟩) zs.length cap] w fun e w' => e = .returned (.tuple #[]) ∧
      w'.ownsRow B E 1 (.slice (some ⟨g, 0, none⟩) zs.length cap) zs.length (vI (zs.mergeSort fun x y => decide (x ≤ y))) ∧ w.grownBy w' (some g) := by
  rcases h.2 with ⟨h0, _⟩ | ⟨g', cap', cur, hv, hB, hb, h1, h2, h3, h4⟩
  · cases h0
  · injection hv with e1 e2 e3
    injection e1 with e1
    injection e1 with e1 _
    subst e1 e3
    rw [Nat.mul_one] at h4
    have hcon := AnyM.slices_Sort_int sortLay g 0 cap zs w (holds_ints hb h4) (Array.getElem?_eq_some_iff.1 hb).1 hz
    change Calls Tryz.prog 83 _ _ _ at hcon
    refine hcon.mono ?_
    rintro e w' ⟨rfl, n, os, rfl⟩
    have hl : (zs.mergeSort fun x y => decide (x ≤ y)).length = zs.length := List.length_mergeSort _
    generalize (zs.mergeSort fun x y => decide (x ≤ y)) = ts at *
    refine ⟨rfl, ⟨by simp [vI, hl], .inr ⟨g, cap, _, rfl, hB, heap_sortedI _ hb, h1, h2, by simp [putCells, h3], ?_⟩⟩, grown_sortedI _⟩
    rw [Nat.mul_one, ← hl]
    exact take_putI cur ts (by omega)

end Go.Proofs.YthhpjgdeehcgjaaGreat

/-
  The program's execute on a machine of its own: drop.
-/
namespace Go.Proofs.YthhpjgdeehcgjaaGreat
set_option linter.unusedVariables false
set_option linter.unusedSimpArgs false
open Go.RowKit

/-- The row of what was dropped is written in its own place. -/
theorem MSt.drS {w w' : World} {B g : Nat} {m : Mc} {S : Nat → Spot} {l' : List Int} (h : MSt w B g m S) (hsp : SpotsT w' B (putS S 5 (spI (S 5).v l'))) : MSt w' B g { m with dr := l' } (putS S 5 (spI (S 5).v l')) := by
  have ev : ∀ j, j ≠ 5 → (putS S 5 (spI (S 5).v l')) j = S j := fun j hj => putS_ne hj
  have e5 : (putS S 5 (spI (S 5).v l')) 5 = spI (S 5).v l' := putS_same _ _ _
  refine ⟨hsp, ?_, ?_, ?_, ?_, ?_, ?_, fun j l hl => ?_, fun j l hl => ?_, fun j x hx => ?_⟩
  · rw [ev 0 (by omega), ev 1 (by omega), ev 2 (by omega), ev 3 (by omega), ev 4 (by omega), e5]
    exact h.box
  · rw [ev 1 (by omega)]
    obtain ⟨xs, e, hx⟩ := h.fr
    exact ⟨xs, e, fun j hj => by rw [ev _ (by unfold iF; omega)]; exact hx j hj⟩
  · rw [ev 2 (by omega)]
    obtain ⟨xs, e, hx⟩ := h.bk
    exact ⟨xs, e, fun j hj => by rw [ev _ (by unfold iB; omega)]; exact hx j hj⟩
  · rw [ev 3 (by omega)]; exact h.cs
  · rw [ev 4 (by omega)]
    obtain ⟨xs, e, hx⟩ := h.ls
    exact ⟨xs, e, fun j x hj => by rw [ev _ (by unfold iP; omega)]; exact hx j x hj⟩
  · rw [e5]
  · rw [ev _ (by unfold iF; omega)]; exact h.fl j l hl
  · rw [ev _ (by unfold iB; omega)]; exact h.bl j l hl
  · rw [ev _ (by unfold iP; omega)]; exact h.pl j x hx
/-- Sorting what was dropped is putting each to its place. -/
theorem sort_put {dr l : List Int} (h : dr.Pairwise (· < ·)) (hn : (l ++ dr).Nodup) : (dr ++ l).mergeSort (fun x y => decide (x ≤ y)) = putAll dr l := by
  obtain ⟨p, s⟩ := putAll_perm h hn
  have h1 := List.pairwise_mergeSort (le := fun x y : Int => decide (x ≤ y)) (fun a b c h h' => by simp at *; omega) (fun a b => by simp; omega) (dr ++ l)
  have h2 : (putAll dr l).Pairwise (fun x y => decide (x ≤ y) = true) := s.imp fun {a b} h => by simp; omega
  exact List.Perm.eq_of_pairwise (fun a b _ _ h h' => by simp at h h'; omega) h1 h2 ((List.mergeSort_perm _ _).trans (List.perm_append_comm.trans p.symm))
theorem OkP.dropN {m : Mc} (h : OkP m) {n : Int × Int} (hn : ndIn m n) : m.dr.Pairwise (· < ·) ∧ (onL m n ++ m.dr).Nodup := by
  have p2 := all_get hn
  have hb := p2.nodup_iff.1 h.nd
  have hsub : (onL m n ++ m.dr).Sublist (onL m n ++ restL m n) := by
    refine (List.Sublist.refl _).append ?_
    unfold restL
    split
    · exact (List.sublist_append_right _ _).trans (List.sublist_append_right _ _)
    · exact (List.sublist_append_right _ _).trans (List.sublist_append_right _ _)
  exact ⟨risB_iff.1 h.ris, hb.sublist hsub⟩
@[go_sem] def ldEx6 : Oper := { dst := some 62, op := Op.load 32 (Operand.tmp 61), type := 32, pos := "l07_machine.go:363", after := #[{ on := 3, ground := Ground.data }], guard := none }

set_option maxHeartbeats 4000000 in
set_option maxRecDepth 100000 in
theorem exec_6 {w : World} {B g : Nat} {m : Mc} {S : Nat → Spot} (h : MSt w B g m S) (hB : B ≤ w.heap.size) (ok : okM m = true) (d fb fa tb ta c r : Int) (hop : okOpW m.wd ⟨6, d, fb, fa, tb, ta, c, r⟩ = true) (h0 : doCode m ⟨6, d, fb, fa, tb, ta, c, r⟩ = 0) (hn : ndIn m (fb, fa)) :
    Calls Tryz.prog 41 #[.pointer (some ⟨g, 0, none⟩), (⟨6, d, fb, fa, tb, ta, c, r⟩ : Opr).v] w fun e w' => e = .returned (.int .i64 0) ∧ ∃ S', MSt w' B g (doTo m ⟨6, d, fb, fa, tb, ta, c, r⟩) S' ∧ Mv w S w' S' := by
  have hok := okM_iff.1 ok
  obtain ⟨d1, d2, d3, d4, d5, d6, d7⟩ := ok_wd ok
  have HOP := Lib.hid hop
  have hb0 := (Below.refl w.heap.size w).alloc (Nat.le_refl _) (.cells #[.int .i64 6, .int .i64 d, .int .i64 fb, .int .i64 fa, .int .i64 tb, .int .i64 ta, .int .i64 c, .int .i64 r] 41)
  have HM1 := Lib.hid (h.below hb0)
  have HV1 := Lib.hid (Mv.of_below (S := S) hb0)
  have HO1 := Lib.hid (Bx.new w [.int .i64 6, .int .i64 d, .int .i64 fb, .int .i64 fa, .int .i64 tb, .int .i64 ta, .int .i64 c, .int .i64 r] 41)
  have HNB := Lib.hid (show ¬ blk S w.heap.size from fun e => by have := (h.sp.ge e).2; omega)
  have HQ0 := Lib.hid (fun (W : World) (hW : RdP W g m) => opCode_any m g W hW ok ⟨6, d, fb, fa, tb, ta, c, r⟩ hop)
  rw [h0] at HQ0
  have hs1 : (w.alloc (.cells #[.int .i64 6, .int .i64 d, .int .i64 fb, .int .i64 fa, .int .i64 tb, .int .i64 ta, .int .i64 c, .int .i64 r] 41)).heap.size = w.heap.size + 1 := by simp
  have HNF := Lib.hid hn
  have hon4 : (onL m (fb, fa)).length ≤ 4 := hok.on4 (fb, fa)
  have hdl := hok.drlen
  obtain ⟨hc6, HT⟩ := do6 (m := m) (x := ⟨6, d, fb, fa, tb, ta, c, r⟩) rfl
  have hpos : 0 < (onL m (fb, fa)).length := by
    rw [hc6] at h0
    by_cases hz : (onL m (fb, fa)).length = 0
    · rw [if_pos hz] at h0; omega
    · omega
  obtain ⟨hr6, hn6⟩ := hok.dropN hn
  have hsrt := sort_put hr6 hn6
  rw [HT]
  show Calls _ _ _ _ fun e w' => e = _ ∧ ∃ S', MSt w' B g (setL { m with dr := putAll m.dr (onL m (fb, fa)) } (fb, fa) []) S' ∧ _
  rw [← hsrt]
  clear HT hc6 hr6 hn6 hsrt
  clear h hb0 ok hop h0
  go_enter Tryz.func41, Tryz.ntmps41
  obtain ⟨o0, o1, o2, o3, o4, o5, o6, o7⟩ := HO1.out.eight
  go_wp2_with fail
  generalize w.alloc (.cells #[.int .i64 6, .int .i64 d, .int .i64 fb, .int .i64 fa, .int .i64 tb, .int .i64 ta, .int .i64 c, .int .i64 r] 41) = W1 at *
  refine (HQ0.out _ HM1.out.rd).mono ?_
  rintro e w2 ⟨rfl, hb2⟩
  have HM2 := Lib.hid (HM1.out.below hb2)
  have HV2 := Lib.hid (HV1.out.below_ hb2)
  have HO2 := Lib.hid (HO1.out.below hb2 HO1.out.2.2)
  have hsz2 : w.heap.size < w2.heap.size := by have := hb2.size; omega
  clear hb2 o0 o1 o2 o3 o4 o5 o6 o7 HM1 HV1 HO1 HQ0
  obtain ⟨o0, o1, o2, o3, o4, o5, o6, o7⟩ := HO2.out.eight
  obtain ⟨i0, hi, hz0, hz1, hz2⟩ := info_parts info_int
  obtain ⟨bF, cF, LF, hvF, hltF, hbF, hbFw, hBF, hcellF, hfrF, -, -⟩ := HM2.out.nd3 HNF.out
  obtain ⟨hrF, ⟨Af, cf, hvf, -⟩, -⟩ := HM2.out.onR HNF.out
  rw [hvf] at hrF hcellF
  have hHF : (fb, fa).2.toNat = fa.toNat := rfl
  rw [hHF] at hcellF
  have own5 := spI_own (HM2.out.sp.own 5) HM2.out.dr
  obtain ⟨A5, c5, hv5⟩ : ∃ A c, (S 5).v = .slice A m.dr.length c := by
    obtain ⟨A, c, h1, -⟩ := (OwC.of_own own5).cells
    exact ⟨A, c, h1⟩
  have x6 : w2.cell? ⟨g, 6, none⟩ = some (.slice A5 m.dr.length c5) := by rw [← hv5]; exact HM2.out.cells.seven.2.2.2.2.2.2
  have xf6 := HM2.out.frozen 6
  have hgw := HM2.out.size.1
  rw [hv5] at own5
  have HOW5 := Lib.hid own5
  have HV5 := Lib.hid hv5
  have HRF := Lib.hid hrF
  have HON := Lib.hid (fun (X : World) (hX : Below w2.heap.size w2 X) => on_ms (HM2.out.below hX) (fb, fa) HNF.out bF cF LF hvF hltF)
  have hg5 : (Value.slice A5 m.dr.length c5).ownBlock ≠ some g := fun e => HM2.out.sp.dis (i := 5) (j := 0) (by omega) (by rw [hv5]; exact e) HM2.out.gbox
  have hF5 : (Value.slice A5 m.dr.length c5).ownBlock ≠ some bF := fun e => by
    obtain ⟨j, h8, h7⟩ := bed_row hvF
    exact HM2.out.sp.dis (i := 5) (j := j) (by omega) (by rw [hv5]; exact e) h7
  have hw5 : (Value.slice A5 m.dr.length c5).ownBlock ≠ some w.heap.size := fun e => HNB.out ⟨5, by rw [hv5]; exact e⟩
  have HG5 := Lib.hid hg5
  have HF5 := Lib.hid hF5
  have HW5 := Lib.hid hw5
  have hgF : g ≠ bF := fun e9 => by
    obtain ⟨j, h8, h7⟩ := bed_row hvF
    exact HM2.out.sp.dis (i := j) (j := 0) (by omega) h7 (by rw [← e9]; exact HM2.out.gbox)
  have hgW : g ≠ w.heap.size := fun e => HNB.out ⟨0, by rw [← e]; exact HM2.out.gbox⟩
  have hfF := far_cell hgF
  have hfW := far_cell hgW
  have HSW := Lib.hid (fun (X : World) (hX : Below w2.heap.size w2 X) => show X.cell? ⟨w.heap.size, 2, none⟩ = some (.int .i64 fb) ∧ X.cell? ⟨w.heap.size, 3, none⟩ = some (.int .i64 fa) ∧ X.cell? ⟨bF, fa.toNat, none⟩ = some (.slice Af (onL m (fb, fa)).length cf) from by
    obtain ⟨-, -, e2, e3, -⟩ := (HO2.out.below hX HO2.out.2.2).eight
    exact ⟨e2, e3, (hX.cell (p := ⟨bF, fa.toNat, none⟩) hbFw).trans hcellF⟩)
  have HX6 := Lib.hid (fun (X : World) (hX : Below w2.heap.size w2 X) => (hX.cell (p := ⟨g, 6, none⟩) hgw).trans x6)
  have HXF6 := Lib.hid (fun (X : World) (hX : Below w2.heap.size w2 X) => (hX.frozen (p := ⟨g, 6, none⟩) hgw).trans xf6)
  have HL4 := Lib.hid hon4
  have HLP := Lib.hid hpos
  clear hvF hltF hcellF hfrF hrF hvf own5 hv5 hg5 hF5 hw5 xf6 hBF hHF o1 o4 o5 o6 o7
  generalize hnf : (onL m (fb, fa)).length = nf at *
  generalize hnd : m.dr.length = nd at *
  have HNF2 := Lib.hid hnf
  have HND := Lib.hid hnd
  clear hnf hnd
  go_upto_region 16 with fail
  rw [show ({ dst := some 62, op := Op.load 32 (Operand.tmp 61), type := 32, pos := "l07_machine.go:363", after := #[{ on := 3, ground := Ground.data }], guard := none } : Oper) = ldEx6 from rfl]
  go_region_held3 (fun w' => w'.cell? ⟨w.heap.size, 2, none⟩ = some (.int .i64 fb) ∧ w'.cell? ⟨w.heap.size, 3, none⟩ = some (.int .i64 fa) ∧ w'.cell? ⟨bF, fa.toNat, none⟩ = some (.slice Af nf cf))
    (first | with_reducible exact HSW.out _ (Below.refl _ _) | with_reducible exact HSW.out _ (Below.refl _ _).drew | with_reducible exact s8 | with_reducible exact HSW.out _ hb3 | (rw [hfW, hfW, hfF]; with_reducible exact s8) | go_keep)
    (first
      | (go_at_call 53; refine (HON.out _ (Below.refl w2.heap.size w2).drew).mono ?_; rintro e w3 ⟨rfl, hb3'⟩; have hb3 : Below w2.heap.size w2 w3 := (Below.refl w2.heap.size w2).drew.trans hb3'; have t6 := HX6.out _ hb3; have hrd3 := ((HRF.out.below hb3).more hb3.size); have how3 := own_below HOW5.out hb3; have hsz3 := hb3.size)
      | (refine step_append_any _ (by rfl) _ _ _ (by rfl) B 2 i0 _ 1 8 Tryz.underlying32 hi hz0 hz1 hz2 rfl (by decide) _ nd (vI m.dr) (by rfl) how3 w3.heap.size Af nf cf (vI (onL m (fb, fa))) (by rfl) (hrd3.reads).1 (vI_one _) (by unfold maxLen; omega) (by omega) (by omega) ?_; intro v8 w8 hown8 hg8 hat8; obtain ⟨A8, c8, rfl⟩ : ∃ A c, v8 = .slice A (nd + nf) c := (by (obtain ⟨A, c, h1, -⟩ := (OwC.of_own hown8).cells; exact ⟨A, c, h1⟩)); have s8 : w8.cell? ⟨w.heap.size, 2, none⟩ = some (.int .i64 fb) ∧ w8.cell? ⟨w.heap.size, 3, none⟩ = some (.int .i64 fa) ∧ w8.cell? ⟨bF, fa.toNat, none⟩ = some (.slice Af nf cf) := (by (obtain ⟨g1, g2, g3⟩ := HSW.out _ hb3; exact ⟨(hg8.cell_far ⟨w.heap.size, 2, none⟩ (by show w.heap.size < w3.heap.size; omega) (Ne.symm HW5.out)).trans g1, (hg8.cell_far ⟨w.heap.size, 3, none⟩ (by show w.heap.size < w3.heap.size; omega) (Ne.symm HW5.out)).trans g2, (hg8.cell_far ⟨bF, fa.toNat, none⟩ (by show bF < w3.heap.size; omega) (Ne.symm HF5.out)).trans g3⟩)); have t8 : w8.cell? ⟨g, 6, none⟩ = some (.slice A5 nd c5) := (hg8.cell_far ⟨g, 6, none⟩ (by show g < w3.heap.size; omega) (Ne.symm HG5.out)).trans t6; have tf8 : w8.frozen? ⟨g, 6, none⟩ = false := (hg8.frozen_far ⟨g, 6, none⟩ (by show g < w3.heap.size; omega) (Ne.symm HG5.out)).trans (HXF6.out _ hb3)))
  all_goals
    have hrow8 : w8.ownsRow B 2 1 (.slice A8 (nd + nf) c8) (m.dr ++ onL m (fb, fa)).length (vI (m.dr ++ onL m (fb, fa))) := by
      rw [List.length_append, HND.out, HNF2.out, vI_append]
      exact hown8
    have hlen8 : (m.dr ++ onL m (fb, fa)).length = nd + nf := by rw [List.length_append, HND.out, HNF2.out]
    have hg8' : w3.grownBy w8 (S 5).v.ownBlock := by rw [HV5.out]; exact hg8
    have hat8' : (spI (.slice A8 (nd + nf) c8) (m.dr ++ onL m (fb, fa))).v.ownBlock = (S 5).v.ownBlock ∨ (spI (.slice A8 (nd + nf) c8) (m.dr ++ onL m (fb, fa))).v.ownBlock = some w3.heap.size := by rw [HV5.out]; exact hat8
    have hm8 := (HM2.out.below hb3).setDr (v' := .slice A8 (nd + nf) c8) (l' := m.dr ++ onL m (fb, fa)) ((HM2.out.below hb3).sp.app 5 _ hrow8 hg8' hat8')
    have hv8 := ((HV2.out.below_ hb3).app (p := 5) (s := spI (.slice A8 (nd + nf) c8) (m.dr ++ onL m (fb, fa))) hg8' hat8')
    have e80 : putS S 5 (spI (.slice A8 (nd + nf) c8) (m.dr ++ onL m (fb, fa))) 0 = S 0 := putS_ne (by omega)
    have hv8' := hv8.setCell (p := 0) (g := g) (i := 6) (by rw [e80]; exact HM2.out.gbox) (.slice A8 (nd + nf) c8) ((S 0).xs.set 6 (.slice A8 (nd + nf) c8))
    rw [e80] at hv8'
    obtain ⟨S8, hS8⟩ : ∃ X, X = putS (putS S 5 (spI (.slice A8 (nd + nf) c8) (m.dr ++ onL m (fb, fa)))) 0 { S 0 with xs := (S 0).xs.set 6 (.slice A8 (nd + nf) c8) } := ⟨_, rfl⟩
    rw [← hS8] at hm8 hv8'
    have e85 : S8 5 = spI (.slice A8 (nd + nf) c8) (m.dr ++ onL m (fb, fa)) := by rw [hS8, putS_ne (by omega), putS_same]
    -- the row of what was dropped, at the world behind the store
    have own9 := spI_own (hm8.sp.own 5) (show S8 5 = spI (S8 5).v (m.dr ++ onL m (fb, fa)) by rw [e85])
    have ev85 : (S8 5).v = .slice A8 (nd + nf) c8 := by rw [e85]
    rw [ev85] at own9
    obtain ⟨b9, c9, hvs9, hbB9, hbw9, hNc9, hob9⟩ := row_slice own9 (by omega)
    rw [hlen8] at hvs9
    injection hvs9 with ea9 _ ec9
    subst ea9 ec9
    have hSQ := Lib.hid (sortI_any b9 c8 (m.dr ++ onL m (fb, fa)) (w8.setCell ⟨g, 6, none⟩ (.slice (some ⟨b9, 0, none⟩) (nd + nf) c8)) B 2 (by rw [hlen8]; rw [hlen8] at own9; exact own9) (by omega))
    have f6 : (w8.setCell ⟨g, 6, none⟩ (.slice (some ⟨b9, 0, none⟩) (nd + nf) c8)).cell? ⟨g, 6, none⟩ = some (.slice (some ⟨b9, 0, none⟩) (nd + nf) c8) := cell_set_same t8
    have HM8 := Lib.hid hm8
    have HV8 := Lib.hid hv8'
    have HE85 := Lib.hid ev85
    have HLEN := Lib.hid hlen8
    have hob8 : OpAt (w8.setCell ⟨g, 6, none⟩ (.slice (some ⟨b9, 0, none⟩) (nd + nf) c8)) w.heap.size 0 ⟨6, d, fb, fa, tb, ta, c, r⟩ := by
      have hq8 := (((Mv.of_below (S := S) hb3).app (p := 5) (s := spI (.slice (some ⟨b9, 0, none⟩) (nd + nf) c8) (m.dr ++ onL m (fb, fa))) hg8' hat8'))
      have hq9 := hq8.setCell (p := 0) (g := g) (i := 6) (by rw [e80]; exact HM2.out.gbox) (.slice (some ⟨b9, 0, none⟩) (nd + nf) c8) ((S 0).xs.set 6 (.slice (some ⟨b9, 0, none⟩) (nd + nf) c8))
      exact hq9.only.cells HNB.out HO2.out.1
    have hnb8 : ¬ blk S8 w.heap.size := by
      have hq8 := (((Mv.of_below (S := S) hb3).app (p := 5) (s := spI (.slice (some ⟨b9, 0, none⟩) (nd + nf) c8) (m.dr ++ onL m (fb, fa))) hg8' hat8'))
      have hq9 := hq8.setCell (p := 0) (g := g) (i := 6) (by rw [e80]; exact HM2.out.gbox) (.slice (some ⟨b9, 0, none⟩) (nd + nf) c8) ((S 0).xs.set 6 (.slice (some ⟨b9, 0, none⟩) (nd + nf) c8))
      rw [e80, ← hS8] at hq9
      exact hq9.nblk HNB.out hsz2
    have HOB := Lib.hid hob8
    have HNB8 := Lib.hid hnb8
    have hsz8 : w.heap.size < (w8.setCell ⟨g, 6, none⟩ (.slice (some ⟨b9, 0, none⟩) (nd + nf) c8)).heap.size := Nat.lt_of_lt_of_le hsz2 (Nat.le_trans hb3.size (by simpa using hg8.size))
    clear hown8 hg8 hat8 hrow8 hlen8 hg8' hat8' hm8 hv8 hv8' e80 e85 ev85 own9 hob8 hnb8 t8 tf8 s8 t6 hrd3 how3 hb3 hb3' HSW HX6 HXF6 HON HRF HOW5 HV5 HG5 HF5 HW5 hfF hfW hgF hgW x6 hbF hbFw o0 o2 o3 hS8 hob9
    generalize w8.setCell ⟨g, 6, none⟩ (.slice (some ⟨b9, 0, none⟩) (nd + nf) c8) = W9 at *
    rw [HLEN.out] at hSQ
    go_wp2_with fail
    refine (hSQ.out).mono ?_
    rintro e w9 ⟨rfl, hown9, hg9⟩
    have hsp9 : SpotsT w9 B (putS S8 5 (spI (S8 5).v ((m.dr ++ onL m (fb, fa)).mergeSort fun x y => decide (x ≤ y)))) :=
      HM8.out.sp.app 5 _ (by
        show w9.ownsRow B 2 1 (S8 5).v ((m.dr ++ onL m (fb, fa)).mergeSort fun x y => decide (x ≤ y)).length (vI ((m.dr ++ onL m (fb, fa)).mergeSort fun x y => decide (x ≤ y)))
        rw [HE85.out, List.length_mergeSort, HLEN.out]
        exact hown9) (by rw [HE85.out]; exact hg9) (.inl rfl)
    have hm9 := HM8.out.drS hsp9
    have hv9 := HV8.out.app (p := 5) (s := spI (S8 5).v ((m.dr ++ onL m (fb, fa)).mergeSort fun x y => decide (x ≤ y))) (by rw [HE85.out]; exact hg9) (.inl rfl)
    have hq9 := (Mv.refl W9 S8).app (p := 5) (s := spI (S8 5).v ((m.dr ++ onL m (fb, fa)).mergeSort fun x y => decide (x ≤ y))) (by rw [HE85.out]; exact hg9) (.inl rfl)
    have hob9 : OpAt w9 w.heap.size 0 ⟨6, d, fb, fa, tb, ta, c, r⟩ := hq9.only.cells HNB8.out HOB.out
    have hnb9 := hq9.nblk HNB8.out hsz8
    have hsz9 : w.heap.size < w9.heap.size := Nat.lt_of_lt_of_le hsz8 hq9.size
    have HM9 := Lib.hid hm9
    have HV9 := Lib.hid hv9
    have HOB9 := Lib.hid hob9
    have HNB9 := Lib.hid hnb9
    generalize putS S8 5 (spI (S8 5).v ((m.dr ++ onL m (fb, fa)).mergeSort fun x y => decide (x ≤ y))) = S9 at *
    generalize hds : ((m.dr ++ onL m (fb, fa)).mergeSort fun x y => decide (x ≤ y)) = ds at *
    have HDS := Lib.hid hds
    clear hds
    have HNF9 : Hid (ndIn ({ wd := m.wd, rk := m.rk, fr := m.fr, bk := m.bk, cs := m.cs, ls := m.ls, dr := ds } : Mc) (fb, fa)) := HNF.out
    clear hown9 hg9 hsp9 hm9 hv9 hq9 hob9 hnb9 HM8 HV8 HOB HNB8 HE85 hSQ f6
    obtain ⟨o0, o1, o2, o3, o4, o5, o6, o7⟩ := HOB9.out.eight
    obtain ⟨bT, cT, LT, hvT, hltT, hbT, hbTw, hBT, hcellT, hfrT, -, hsetT⟩ := HM9.out.nd3 HNF9.out
    have HON9 := Lib.hid (on_ms HM9.out (fb, fa) HNF9.out bT cT LT hvT hltT)
    obtain ⟨-, ⟨At, ct, hvt, -⟩, -⟩ := HM9.out.onR HNF9.out
    rw [hvt] at hcellT
    have HCT := Lib.hid hcellT
    have HFT := Lib.hid hfrT
    have HST := Lib.hid hsetT
    have hbTne : bT ≠ w.heap.size := fun e => HNB9.out (by rw [← e]; exact hbT)
    clear hvT hltT hcellT hfrT hsetT hvt hBT
    go_wp2_with fail
    refine (HON9.out).mono ?_
    rintro e w10 ⟨rfl, hb10⟩
    have yT : w10.cell? ⟨bT, fa.toNat, none⟩ = _ := (hb10.cell (p := ⟨bT, fa.toNat, none⟩) hbTw).trans HCT.out
    have yf : w10.frozen? ⟨bT, fa.toNat, none⟩ = false := (hb10.frozen (p := ⟨bT, fa.toNat, none⟩) hbTw).trans (HFT.out _)
    obtain ⟨S11, hm11, hmv11, -, -⟩ := HST.out w10 [] (.slice none 0 0) ((HM9.out.below hb10).sp.putNone (iN (fb, fa)) 2 1)
    have hv11 := hmv11 w S ((HV9.out.below_ hb10).put (iN (fb, fa)) (spI (.slice none 0 0) []) (fun q hq => by cases hq))
    have HFIN := Lib.hid (And.intro hm11 hv11)
    have hfT := far_cell hbTne
    have hk0 : w10.cell? ⟨w.heap.size, 0, none⟩ = some (.int .i64 6) := (hb10.cell (p := ⟨w.heap.size, 0, none⟩) hsz9).trans o0
    clear o0 o1 o2 o3 o4 o5 o6 o7 hb10 hm11 hmv11 hv11 HST HFT HCT HON9 HM9 HV9 HOB9
    go_wp2_with fail
    refine (makesLoop_rk 6 _).mono ?_
    rintro e wz ⟨rfl, rfl⟩
    go_wp2
    go_ret
    exact ⟨rfl, S11, by rw [HDS.out]; exact HFIN.out.1, HFIN.out.2⟩

end Go.Proofs.YthhpjgdeehcgjaaGreat

/-
  The program's execute on a machine of its own, at any operation that can be executed.
-/
namespace Go.Proofs.YthhpjgdeehcgjaaGreat
set_option linter.unusedVariables false
set_option linter.unusedSimpArgs false
open Go.RowKit

theorem fm_room {m : Mc} {x : Opr} (hk : x.k = 1 ∨ x.k = 2 ∨ x.k = 5) (h : doCode m x = 0) : m.ls.length < 300 := by
  rw [(do125 hk).1] at h
  unfold fmCode at h
  split at h
  · omega
  · split at h
    · omega
    · omega
theorem exec_any {w : World} {B g : Nat} {m : Mc} {S : Nat → Spot} (h : MSt w B g m S) (hB : B ≤ w.heap.size) (ok : okM m = true) (x : Opr) (hop : okOpW m.wd x = true) (h0 : doCode m x = 0) :
    Calls Tryz.prog 41 #[.pointer (some ⟨g, 0, none⟩), x.v] w fun e w' => e = .returned (.int .i64 0) ∧ ∃ S', MSt w' B g (doTo m x) S' ∧ Mv w S w' S' := by
  obtain ⟨hk0, hfw, htw⟩ := okOpW_iff.1 hop
  have hok := okM_iff.1 ok
  obtain ⟨k, d, fb, fa, tb, ta, c, r⟩ := x
  have hn : ndB fb fa = true → ndIn m (fb, fa) ∧ 0 ≤ fa := fun hf => by
    obtain ⟨h1, h2, h3⟩ := ndB_iff.1 hf
    exact ⟨hok.need h1 h2 hfw, h2⟩
  have ht : ndB tb ta = true → ndIn m (tb, ta) := fun hf => by
    obtain ⟨h1, h2, h3⟩ := ndB_iff.1 hf
    exact hok.need h1 h2 htw
  have hcj : 1 ≤ c → c ≤ 4 → ∃ j : Nat, j < 4 ∧ c = (j : Int) + 1 := fun h1 h2 => ⟨(c - 1).toNat, by omega, by omega⟩
  rcases okOp_kinds hk0 with ⟨hk, hd, hf, c1, c4, -⟩ | ⟨hk, hf, hto, hne, -⟩ | ⟨hk, hf, hto, hne, hd, c1, c4, -⟩ | ⟨hk, hf, -⟩ | ⟨hk, hr1, hr2, -⟩ | ⟨hk, hd, c1, c4, -⟩ | ⟨hk, c1, c4, -⟩
  · obtain ⟨j, hj, hc⟩ := hcj c1 c4
    subst hc
    obtain ⟨h1, h2⟩ := hn hf
    have hd' : d = 1 ∨ d = -1 := hd
    rcases hk with hk | hk | hk
    · have hk' : k = 1 := hk
      subst hk'
      have hl := fm_room (.inl rfl) h0
      rcases hd' with rfl | rfl
      · exact exec_1r h hB ok fb fa tb ta r j hj hop h0 h2 hfw h1 hl
      · exact exec_1l h hB ok fb fa tb ta r j hj hop h0 h2 hfw h1 hl
    · have hk' : k = 2 := hk
      subst hk'
      have hl := fm_room (.inr (.inl rfl)) h0
      rcases hd' with rfl | rfl
      · exact exec_2r h hB ok fb fa tb ta r j hj hop h0 h2 hfw h1 hl
      · exact exec_2l h hB ok fb fa tb ta r j hj hop h0 h2 hfw h1 hl
    · have hk' : k = 3 := hk
      subst hk'
      rcases hd' with rfl | rfl
      · exact exec_3r h hB ok fb fa tb ta r j hj hop h0 h2 hfw
      · exact exec_3l h hB ok fb fa tb ta r j hj hop h0 h2 hfw
  · have hk' : k = 4 := hk
    subst hk'
    obtain ⟨h1, -⟩ := hn hf
    have h2 := ht hto
    have hfb : fb = 1 ∨ fb = 2 := h1.1
    have htb : tb = 1 ∨ tb = 2 := h2.1
    have hne' : fb ≠ tb := hne
    rcases hfb with rfl | rfl <;> rcases htb with rfl | rfl
    · exact absurd rfl hne'
    · exact exec_4b h hB ok d fa ta c r hop h0 h1 h2
    · exact exec_4f h hB ok d fa ta c r hop h0 h1 h2
    · exact absurd rfl hne'
  · have hk' : k = 5 := hk
    subst hk'
    obtain ⟨j, hj, hc⟩ := hcj c1 c4
    subst hc
    obtain ⟨h1, h3⟩ := hn hf
    have h2 := ht hto
    have hd' : d = 1 ∨ d = -1 := hd
    have hl := fm_room (.inr (.inr rfl)) h0
    have hfb : fb = 1 ∨ fb = 2 := h1.1
    have htb : tb = 1 ∨ tb = 2 := h2.1
    have hne' : fb ≠ tb := hne
    rcases hfb with rfl | rfl <;> rcases htb with rfl | rfl <;> rcases hd' with rfl | rfl
    · exact absurd rfl hne'
    · exact absurd rfl hne'
    · exact exec_5br h hB ok fa ta r j hj hop h0 h3 hfw h1 h2 hl
    · exact exec_5bl h hB ok fa ta r j hj hop h0 h3 hfw h1 h2 hl
    · exact exec_5fr h hB ok fa ta r j hj hop h0 h3 hfw h1 h2 hl
    · exact exec_5fl h hB ok fa ta r j hj hop h0 h3 hfw h1 h2 hl
    · exact absurd rfl hne'
    · exact absurd rfl hne'
  · have hk' : k = 6 := hk
    subst hk'
    exact exec_6 h hB ok d fb fa tb ta c r hop h0 (hn hf).1
  · have hk' : k = 7 := hk
    subst hk'
    exact exec_7 h hB ok d fb fa tb ta c r hop h0
  · have hk' : k = 8 := hk
    subst hk'
    obtain ⟨j, hj, hc⟩ := hcj c1 c4
    subst hc
    have hd' : d = 1 ∨ d = -1 := hd
    rcases hd' with rfl | rfl
    · exact exec_8r h hB ok fb fa tb ta r j hj hop h0
    · exact exec_8l h hB ok fb fa tb ta r j hj hop h0
  · have hk' : k = 9 := hk
    subst hk'
    obtain ⟨j, hj, hc⟩ := hcj c1 c4
    subst hc
    exact exec_9 h hB ok d fb fa tb ta r j hj hop h0

end Go.Proofs.YthhpjgdeehcgjaaGreat
