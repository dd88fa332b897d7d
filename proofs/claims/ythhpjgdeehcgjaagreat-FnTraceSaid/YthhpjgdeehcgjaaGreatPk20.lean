/-
  Texts joined: ExC, ExD.
-/
import Derived.Test.YthhpjgdeehcgjaaGreatPk19
import Derived.Test.YthhpjgdeehcgjaaGreatPk16
/-
  The program's execute on a machine of its own: the rack, carriers in and out, a miss.
-/
namespace Go.Proofs.YthhpjgdeehcgjaaGreat
set_option linter.unusedVariables false
set_option linter.unusedSimpArgs false
open Go.RowKit

@[go_sem] def ixExe : Oper := { dst := some 155, op := Op.indexAddr 30 (Operand.tmp 139) (Operand.tmp 142), type := 0, pos := "l07_machine.go:377", after := #[{ on := 3, ground := Ground.data }, { on := 6, ground := Ground.data }, { on := 0, ground := Ground.phase }, { on := 1, ground := Ground.phase }, { on := 2, ground := Ground.phase }, { on := 3, ground := Ground.phase }, { on := 4, ground := Ground.phase }, { on := 5, ground := Ground.phase }, { on := 6, ground := Ground.phase }, { on := 7, ground := Ground.phase }, { on := 8, ground := Ground.phase }, { on := 9, ground := Ground.phase }, { on := 10, ground := Ground.phase }, { on := 11, ground := Ground.phase }, { on := 12, ground := Ground.phase }, { on := 13, ground := Ground.phase }, { on := 14, ground := Ground.phase }, { on := 15, ground := Ground.phase }, { on := 16, ground := Ground.phase }, { on := 17, ground := Ground.phase }, { on := 18, ground := Ground.phase }], guard := none }

set_option maxHeartbeats 4000000 in
set_option maxRecDepth 100000 in
theorem exec_7 {w : World} {B g : Nat} {m : Mc} {S : Nat → Spot} (h : MSt w B g m S) (hB : B ≤ w.heap.size) (ok : okM m = true) (d fb fa tb ta c r : Int) (hop : okOpW m.wd ⟨7, d, fb, fa, tb, ta, c, r⟩ = true) (h0 : doCode m ⟨7, d, fb, fa, tb, ta, c, r⟩ = 0) :
    Calls Tryz.prog 41 #[.pointer (some ⟨g, 0, none⟩), (⟨7, d, fb, fa, tb, ta, c, r⟩ : Opr).v] w fun e w' => e = .returned (.int .i64 0) ∧ ∃ S', MSt w' B g (doTo m ⟨7, d, fb, fa, tb, ta, c, r⟩) S' ∧ Mv w S w' S' := by
  have hok := okM_iff.1 ok
  obtain ⟨d1, d2, d3, d4, d5, d6, d7⟩ := ok_wd ok
  have HOP := Lib.hid hop
  have hb0 := (Below.refl w.heap.size w).alloc (Nat.le_refl _) (.cells #[.int .i64 7, .int .i64 d, .int .i64 fb, .int .i64 fa, .int .i64 tb, .int .i64 ta, .int .i64 c, .int .i64 r] 41)
  have HM1 := Lib.hid (h.below hb0)
  have HV1 := Lib.hid (Mv.of_below (S := S) hb0)
  have HO1 := Lib.hid (Bx.new w [.int .i64 7, .int .i64 d, .int .i64 fb, .int .i64 fa, .int .i64 tb, .int .i64 ta, .int .i64 c, .int .i64 r] 41)
  have HNB := Lib.hid (show ¬ blk S w.heap.size from fun e => by have := (h.sp.ge e).2; omega)
  have HQ0 := Lib.hid (fun (W : World) (hW : RdP W g m) => opCode_any m g W hW ok ⟨7, d, fb, fa, tb, ta, c, r⟩ hop)
  rw [h0] at HQ0
  have hs1 : (w.alloc (.cells #[.int .i64 7, .int .i64 d, .int .i64 fb, .int .i64 fa, .int .i64 tb, .int .i64 ta, .int .i64 c, .int .i64 r] 41)).heap.size = w.heap.size + 1 := by simp
  obtain ⟨-, HT⟩ := do7 (m := m) (x := ⟨7, d, fb, fa, tb, ta, c, r⟩) rfl
  rw [HT]
  clear h hb0 ok hop h0
  go_enter Tryz.func41, Tryz.ntmps41
  obtain ⟨o0, o1, o2, o3, o4, o5, o6, o7⟩ := HO1.out.eight
  go_wp2_with fail
  generalize w.alloc (.cells #[.int .i64 7, .int .i64 d, .int .i64 fb, .int .i64 fa, .int .i64 tb, .int .i64 ta, .int .i64 c, .int .i64 r] 41) = W1 at *
  refine (HQ0.out _ HM1.out.rd).mono ?_
  rintro e w2 ⟨rfl, hb2⟩
  have HM2 := Lib.hid (HM1.out.below hb2)
  have HV2 := Lib.hid (HV1.out.below_ hb2)
  have HO2 := Lib.hid (HO1.out.below hb2 HO1.out.2.2)
  have hsz2 : w.heap.size < w2.heap.size := by have := hb2.size; omega
  clear hb2 o0 o1 o2 o3 o4 o5 o6 o7 HM1 HV1 HO1 HQ0
  obtain ⟨o0, o1, o2, o3, o4, o5, o6, o7⟩ := HO2.out.eight
  have x1 : w2.cell? ⟨g, 1, none⟩ = some (.int .i64 m.rk) := HM2.out.cells.seven.2.1
  have xf := HM2.out.frozen 1
  have hgw : w.heap.size ≠ g := fun e => HNB.out ⟨0, by rw [e]; exact HM2.out.gbox⟩
  have hfg := far_cell (Ne.symm hgw)
  have HFIN := Lib.hid (And.intro (HM2.out.setRk (r := r)) (HV2.out.setCell HM2.out.gbox (i := 1) (.int .i64 r) ((S 0).xs.set 1 (.int .i64 r))))
  have q0 : (w2.setCell ⟨g, 1, none⟩ (.int .i64 r)).cell? ⟨w.heap.size, 0, none⟩ = some (.int .i64 7) := by rw [hfg]; exact o0
  go_wp2_with fail
  refine (makesLoop_rk 7 _).mono ?_
  rintro e wz ⟨rfl, rfl⟩
  go_wp2
  go_ret
  exact ⟨rfl, _, HFIN.out.1, HFIN.out.2⟩

set_option maxHeartbeats 4000000 in
set_option maxRecDepth 100000 in
theorem exec_9 {w : World} {B g : Nat} {m : Mc} {S : Nat → Spot} (h : MSt w B g m S) (hB : B ≤ w.heap.size) (ok : okM m = true) (d fb fa tb ta r : Int) (j : Nat) (hj4 : j < 4) (hop : okOpW m.wd ⟨9, d, fb, fa, tb, ta, ((j : Int) + 1), r⟩ = true) (h0 : doCode m ⟨9, d, fb, fa, tb, ta, ((j : Int) + 1), r⟩ = 0) :
    Calls Tryz.prog 41 #[.pointer (some ⟨g, 0, none⟩), (⟨9, d, fb, fa, tb, ta, ((j : Int) + 1), r⟩ : Opr).v] w fun e w' => e = .returned (.int .i64 0) ∧ ∃ S', MSt w' B g (doTo m ⟨9, d, fb, fa, tb, ta, ((j : Int) + 1), r⟩) S' ∧ Mv w S w' S' := by
  have hok := okM_iff.1 ok
  obtain ⟨d1, d2, d3, d4, d5, d6, d7⟩ := ok_wd ok
  have HOP := Lib.hid hop
  have hb0 := (Below.refl w.heap.size w).alloc (Nat.le_refl _) (.cells #[.int .i64 9, .int .i64 d, .int .i64 fb, .int .i64 fa, .int .i64 tb, .int .i64 ta, .int .i64 ((j : Int) + 1), .int .i64 r] 41)
  have HM1 := Lib.hid (h.below hb0)
  have HV1 := Lib.hid (Mv.of_below (S := S) hb0)
  have HO1 := Lib.hid (Bx.new w [.int .i64 9, .int .i64 d, .int .i64 fb, .int .i64 fa, .int .i64 tb, .int .i64 ta, .int .i64 ((j : Int) + 1), .int .i64 r] 41)
  have HNB := Lib.hid (show ¬ blk S w.heap.size from fun e => by have := (h.sp.ge e).2; omega)
  have HQ0 := Lib.hid (fun (W : World) (hW : RdP W g m) => opCode_any m g W hW ok ⟨9, d, fb, fa, tb, ta, ((j : Int) + 1), r⟩ hop)
  rw [h0] at HQ0
  have hs1 : (w.alloc (.cells #[.int .i64 9, .int .i64 d, .int .i64 fb, .int .i64 fa, .int .i64 tb, .int .i64 ta, .int .i64 ((j : Int) + 1), .int .i64 r] 41)).heap.size = w.heap.size + 1 := by simp
  obtain ⟨-, HT⟩ := do89 (m := m) (x := ⟨9, d, fb, fa, tb, ta, ((j : Int) + 1), r⟩) (.inr rfl)
  rw [HT]
  have HIM : inM m ⟨9, d, fb, fa, tb, ta, ((j : Int) + 1), r⟩ = setC m ((j : Int) + 1) ⟨false, 0⟩ := rfl
  rw [HIM]
  clear HIM HT
  clear h hb0 ok hop h0
  go_enter Tryz.func41, Tryz.ntmps41
  obtain ⟨o0, o1, o2, o3, o4, o5, o6, o7⟩ := HO1.out.eight
  go_wp2_with fail
  generalize w.alloc (.cells #[.int .i64 9, .int .i64 d, .int .i64 fb, .int .i64 fa, .int .i64 tb, .int .i64 ta, .int .i64 ((j : Int) + 1), .int .i64 r] 41) = W1 at *
  refine (HQ0.out _ HM1.out.rd).mono ?_
  rintro e w2 ⟨rfl, hb2⟩
  have HM2 := Lib.hid (HM1.out.below hb2)
  have HV2 := Lib.hid (HV1.out.below_ hb2)
  have HO2 := Lib.hid (HO1.out.below hb2 HO1.out.2.2)
  have hsz2 : w.heap.size < w2.heap.size := by have := hb2.size; omega
  clear hb2 o0 o1 o2 o3 o4 o5 o6 o7 HM1 HV1 HO1 HQ0
  obtain ⟨o0, o1, o2, o3, o4, o5, o6, o7⟩ := HO2.out.eight
  obtain ⟨bc, cp, hvc, hblc, hBc, hbwc, hoc, hc0, hc1, hfc⟩ := HM2.out.cars ((j : Int) + 1) (by omega) (by omega)
  have hjn : (((j : Int) + 1) - 1).toNat = j := by omega
  rw [hjn] at hc0 hc1
  rw [d7] at hvc
  obtain ⟨x0, -, -, -, x4, -, -⟩ := HM2.out.cells.seven
  rw [hvc] at x4
  have hjl : (j : Int) < 4 := by omega
  have hj0 : (0 : Int) ≤ (j : Int) := by omega
  have hcg : bc ≠ g := fun e => HM2.out.sp.dis (i := 3) (j := 0) (by omega) (by rw [hoc, e]) HM2.out.gbox
  have hcw : bc ≠ w.heap.size := fun e => HNB.out (by rw [← e]; exact hblc)
  have hfg := far_cell hcg
  have hfw := far_cell hcw
  have hn1 := near_cell (show j * 2 ≠ j * 2 + 1 by omega) bc
  have hn0 := near_cell (show j * 2 + 1 ≠ j * 2 by omega) bc
  have qf0 := hfc (j * 2)
  have qf1 := hfc (j * 2 + 1)
  obtain ⟨S5, hm5, hv5, -⟩ := HM2.out.setCb (c := ((j : Int) + 1)) (by omega) (by omega) hoc false 0 HV2.out
  simp only [hjn] at hm5 hv5
  have HFIN := Lib.hid (And.intro hm5.drew hv5.drew)
  have q0 : ((w2.setCell ⟨bc, j * 2, none⟩ (.bool false)).setCell ⟨bc, j * 2 + 1, none⟩ (.int .i64 0)).cell? ⟨w.heap.size, 0, none⟩ = some (.int .i64 9) := by rw [hfw, hfw]; exact o0
  have q0d : ((w2.setCell ⟨bc, j * 2, none⟩ (.bool false)).setCell ⟨bc, j * 2 + 1, none⟩ (.int .i64 0)).drew.cell? ⟨w.heap.size, 0, none⟩ = some (.int .i64 9) := q0
  clear hm5 hv5 hvc hfc
  go_wp2
  go_region
  go_wp2_with fail
  refine (makesLoop_rk 9 _).mono ?_
  rintro e wz ⟨rfl, rfl⟩
  go_wp2
  go_ret
  exact ⟨rfl, _, HFIN.out.1, HFIN.out.2⟩

set_option maxHeartbeats 4000000 in
set_option maxRecDepth 100000 in
theorem exec_8r {w : World} {B g : Nat} {m : Mc} {S : Nat → Spot} (h : MSt w B g m S) (hB : B ≤ w.heap.size) (ok : okM m = true) (fb fa tb ta r : Int) (j : Nat) (hj4 : j < 4) (hop : okOpW m.wd ⟨8, 1, fb, fa, tb, ta, ((j : Int) + 1), r⟩ = true) (h0 : doCode m ⟨8, 1, fb, fa, tb, ta, ((j : Int) + 1), r⟩ = 0) :
    Calls Tryz.prog 41 #[.pointer (some ⟨g, 0, none⟩), (⟨8, 1, fb, fa, tb, ta, ((j : Int) + 1), r⟩ : Opr).v] w fun e w' => e = .returned (.int .i64 0) ∧ ∃ S', MSt w' B g (doTo m ⟨8, 1, fb, fa, tb, ta, ((j : Int) + 1), r⟩) S' ∧ Mv w S w' S' := by
  have hok := okM_iff.1 ok
  obtain ⟨d1, d2, d3, d4, d5, d6, d7⟩ := ok_wd ok
  have HOP := Lib.hid hop
  have hb0 := (Below.refl w.heap.size w).alloc (Nat.le_refl _) (.cells #[.int .i64 8, .int .i64 1, .int .i64 fb, .int .i64 fa, .int .i64 tb, .int .i64 ta, .int .i64 ((j : Int) + 1), .int .i64 r] 41)
  have HM1 := Lib.hid (h.below hb0)
  have HV1 := Lib.hid (Mv.of_below (S := S) hb0)
  have HO1 := Lib.hid (Bx.new w [.int .i64 8, .int .i64 1, .int .i64 fb, .int .i64 fa, .int .i64 tb, .int .i64 ta, .int .i64 ((j : Int) + 1), .int .i64 r] 41)
  have HNB := Lib.hid (show ¬ blk S w.heap.size from fun e => by have := (h.sp.ge e).2; omega)
  have HQ0 := Lib.hid (fun (W : World) (hW : RdP W g m) => opCode_any m g W hW ok ⟨8, 1, fb, fa, tb, ta, ((j : Int) + 1), r⟩ hop)
  rw [h0] at HQ0
  have hs1 : (w.alloc (.cells #[.int .i64 8, .int .i64 1, .int .i64 fb, .int .i64 fa, .int .i64 tb, .int .i64 ta, .int .i64 ((j : Int) + 1), .int .i64 r] 41)).heap.size = w.heap.size + 1 := by simp
  obtain ⟨-, HT⟩ := do89 (m := m) (x := ⟨8, 1, fb, fa, tb, ta, ((j : Int) + 1), r⟩) (.inl rfl)
  rw [HT]
  have HIM : inM m ⟨8, 1, fb, fa, tb, ta, ((j : Int) + 1), r⟩ = setC m ((j : Int) + 1) ⟨true, -3⟩ := rfl
  rw [HIM]
  clear HIM HT
  clear h hb0 ok hop h0
  go_enter Tryz.func41, Tryz.ntmps41
  obtain ⟨o0, o1, o2, o3, o4, o5, o6, o7⟩ := HO1.out.eight
  go_wp2_with fail
  generalize w.alloc (.cells #[.int .i64 8, .int .i64 1, .int .i64 fb, .int .i64 fa, .int .i64 tb, .int .i64 ta, .int .i64 ((j : Int) + 1), .int .i64 r] 41) = W1 at *
  refine (HQ0.out _ HM1.out.rd).mono ?_
  rintro e w2 ⟨rfl, hb2⟩
  have HM2 := Lib.hid (HM1.out.below hb2)
  have HV2 := Lib.hid (HV1.out.below_ hb2)
  have HO2 := Lib.hid (HO1.out.below hb2 HO1.out.2.2)
  have hsz2 : w.heap.size < w2.heap.size := by have := hb2.size; omega
  clear hb2 o0 o1 o2 o3 o4 o5 o6 o7 HM1 HV1 HO1 HQ0
  obtain ⟨o0, o1, o2, o3, o4, o5, o6, o7⟩ := HO2.out.eight
  obtain ⟨bc, cp, hvc, hblc, hBc, hbwc, hoc, hc0, hc1, hfc⟩ := HM2.out.cars ((j : Int) + 1) (by omega) (by omega)
  have hjn : (((j : Int) + 1) - 1).toNat = j := by omega
  rw [hjn] at hc0 hc1
  rw [d7] at hvc
  obtain ⟨x0, -, -, -, x4, -, -⟩ := HM2.out.cells.seven
  rw [hvc] at x4
  have hjl : (j : Int) < 4 := by omega
  have hj0 : (0 : Int) ≤ (j : Int) := by omega
  have hcg : bc ≠ g := fun e => HM2.out.sp.dis (i := 3) (j := 0) (by omega) (by rw [hoc, e]) HM2.out.gbox
  have hcw : bc ≠ w.heap.size := fun e => HNB.out (by rw [← e]; exact hblc)
  have hfg := far_cell hcg
  have hfw := far_cell hcw
  have hn1 := near_cell (show j * 2 ≠ j * 2 + 1 by omega) bc
  have hn0 := near_cell (show j * 2 + 1 ≠ j * 2 by omega) bc
  have qf0 := hfc (j * 2)
  have qf1 := hfc (j * 2 + 1)
  obtain ⟨S5, hm5, hv5, ho5⟩ := HM2.out.setCb (c := ((j : Int) + 1)) (by omega) (by omega) hoc true (-3) HV2.out
  simp only [hjn] at hm5 hv5
  have HFIN := Lib.hid (And.intro hm5.drew hv5.drew)
  have q0 : ((w2.setCell ⟨bc, j * 2, none⟩ (.bool true)).setCell ⟨bc, j * 2 + 1, none⟩ (.int .i64 (-3))).drew.cell? ⟨w.heap.size, 0, none⟩ = some (.int .i64 8) := by show ((w2.setCell ⟨bc, j * 2, none⟩ (.bool true)).setCell ⟨bc, j * 2 + 1, none⟩ (.int .i64 (-3))).cell? ⟨w.heap.size, 0, none⟩ = _; rw [hfw, hfw]; exact o0
  have q1 : ((w2.setCell ⟨bc, j * 2, none⟩ (.bool true)).setCell ⟨bc, j * 2 + 1, none⟩ (.int .i64 (-3))).drew.cell? ⟨w.heap.size, 1, none⟩ = some (.int .i64 1) := by show ((w2.setCell ⟨bc, j * 2, none⟩ (.bool true)).setCell ⟨bc, j * 2 + 1, none⟩ (.int .i64 (-3))).cell? ⟨w.heap.size, 1, none⟩ = _; rw [hfw, hfw]; exact o1
  clear hm5 hv5 hvc hfc ho5
  go_wp2
  go_region
  go_wp2_with fail
  refine (makesLoop_rk 8 _).mono ?_
  rintro e wz ⟨rfl, rfl⟩
  go_wp2
  go_ret
  exact ⟨rfl, _, HFIN.out.1, HFIN.out.2⟩

set_option maxHeartbeats 4000000 in
set_option maxRecDepth 100000 in
theorem exec_8l {w : World} {B g : Nat} {m : Mc} {S : Nat → Spot} (h : MSt w B g m S) (hB : B ≤ w.heap.size) (ok : okM m = true) (fb fa tb ta r : Int) (j : Nat) (hj4 : j < 4) (hop : okOpW m.wd ⟨8, -1, fb, fa, tb, ta, ((j : Int) + 1), r⟩ = true) (h0 : doCode m ⟨8, -1, fb, fa, tb, ta, ((j : Int) + 1), r⟩ = 0) :
    Calls Tryz.prog 41 #[.pointer (some ⟨g, 0, none⟩), (⟨8, -1, fb, fa, tb, ta, ((j : Int) + 1), r⟩ : Opr).v] w fun e w' => e = .returned (.int .i64 0) ∧ ∃ S', MSt w' B g (doTo m ⟨8, -1, fb, fa, tb, ta, ((j : Int) + 1), r⟩) S' ∧ Mv w S w' S' := by
  have hok := okM_iff.1 ok
  obtain ⟨d1, d2, d3, d4, d5, d6, d7⟩ := ok_wd ok
  have HOP := Lib.hid hop
  have hb0 := (Below.refl w.heap.size w).alloc (Nat.le_refl _) (.cells #[.int .i64 8, .int .i64 (-1), .int .i64 fb, .int .i64 fa, .int .i64 tb, .int .i64 ta, .int .i64 ((j : Int) + 1), .int .i64 r] 41)
  have HM1 := Lib.hid (h.below hb0)
  have HV1 := Lib.hid (Mv.of_below (S := S) hb0)
  have HO1 := Lib.hid (Bx.new w [.int .i64 8, .int .i64 (-1), .int .i64 fb, .int .i64 fa, .int .i64 tb, .int .i64 ta, .int .i64 ((j : Int) + 1), .int .i64 r] 41)
  have HNB := Lib.hid (show ¬ blk S w.heap.size from fun e => by have := (h.sp.ge e).2; omega)
  have HQ0 := Lib.hid (fun (W : World) (hW : RdP W g m) => opCode_any m g W hW ok ⟨8, -1, fb, fa, tb, ta, ((j : Int) + 1), r⟩ hop)
  rw [h0] at HQ0
  have hs1 : (w.alloc (.cells #[.int .i64 8, .int .i64 (-1), .int .i64 fb, .int .i64 fa, .int .i64 tb, .int .i64 ta, .int .i64 ((j : Int) + 1), .int .i64 r] 41)).heap.size = w.heap.size + 1 := by simp
  obtain ⟨-, HT⟩ := do89 (m := m) (x := ⟨8, -1, fb, fa, tb, ta, ((j : Int) + 1), r⟩) (.inl rfl)
  rw [HT]
  have HIM : inM m ⟨8, -1, fb, fa, tb, ta, ((j : Int) + 1), r⟩ = setC m ((j : Int) + 1) ⟨true, (m.wd + 3)⟩ := rfl
  rw [HIM]
  clear HIM HT
  clear h hb0 ok hop h0
  go_enter Tryz.func41, Tryz.ntmps41
  obtain ⟨o0, o1, o2, o3, o4, o5, o6, o7⟩ := HO1.out.eight
  go_wp2_with fail
  generalize w.alloc (.cells #[.int .i64 8, .int .i64 (-1), .int .i64 fb, .int .i64 fa, .int .i64 tb, .int .i64 ta, .int .i64 ((j : Int) + 1), .int .i64 r] 41) = W1 at *
  refine (HQ0.out _ HM1.out.rd).mono ?_
  rintro e w2 ⟨rfl, hb2⟩
  have HM2 := Lib.hid (HM1.out.below hb2)
  have HV2 := Lib.hid (HV1.out.below_ hb2)
  have HO2 := Lib.hid (HO1.out.below hb2 HO1.out.2.2)
  have hsz2 : w.heap.size < w2.heap.size := by have := hb2.size; omega
  clear hb2 o0 o1 o2 o3 o4 o5 o6 o7 HM1 HV1 HO1 HQ0
  obtain ⟨o0, o1, o2, o3, o4, o5, o6, o7⟩ := HO2.out.eight
  obtain ⟨bc, cp, hvc, hblc, hBc, hbwc, hoc, hc0, hc1, hfc⟩ := HM2.out.cars ((j : Int) + 1) (by omega) (by omega)
  have hjn : (((j : Int) + 1) - 1).toNat = j := by omega
  rw [hjn] at hc0 hc1
  rw [d7] at hvc
  obtain ⟨x0, -, -, -, x4, -, -⟩ := HM2.out.cells.seven
  rw [hvc] at x4
  have hjl : (j : Int) < 4 := by omega
  have hj0 : (0 : Int) ≤ (j : Int) := by omega
  have hcg : bc ≠ g := fun e => HM2.out.sp.dis (i := 3) (j := 0) (by omega) (by rw [hoc, e]) HM2.out.gbox
  have hcw : bc ≠ w.heap.size := fun e => HNB.out (by rw [← e]; exact hblc)
  have hfg := far_cell hcg
  have hfw := far_cell hcw
  have hn1 := near_cell (show j * 2 ≠ j * 2 + 1 by omega) bc
  have hn0 := near_cell (show j * 2 + 1 ≠ j * 2 by omega) bc
  have qf0 := hfc (j * 2)
  have qf1 := hfc (j * 2 + 1)
  obtain ⟨S5, hm5, hv5, ho5⟩ := HM2.out.setCb (c := ((j : Int) + 1)) (by omega) (by omega) hoc true (-3) HV2.out
  simp only [hjn] at hm5 hv5
  have HM5 := Lib.hid hm5.drew
  have HV5 := Lib.hid hv5.drew
  have HO5 := Lib.hid ho5
  have HO5b : Hid (CellsAt ((w2.setCell ⟨bc, j * 2, none⟩ (.bool true)).setCell ⟨bc, j * 2 + 1, none⟩ (.int .i64 (-3))).drew w.heap.size 0 [.int .i64 8, .int .i64 (-1), .int .i64 fb, .int .i64 fa, .int .i64 tb, .int .i64 ta, .int .i64 ((j : Int) + 1), .int .i64 r]) := fun i u hu => by
    show ((w2.setCell ⟨bc, j * 2, none⟩ (.bool true)).setCell ⟨bc, j * 2 + 1, none⟩ (.int .i64 (-3))).cell? ⟨w.heap.size, 0 + i, none⟩ = _
    rw [hfw, hfw]
    exact HO2.out.1 i u hu
  clear hm5 hv5 hvc hfc ho5
  go_wp2
  go_region
  generalize ((w2.setCell ⟨bc, j * 2, none⟩ (.bool true)).setCell ⟨bc, j * 2 + 1, none⟩ (.int .i64 (-3))).drew = W5 at *
  clear x0 x4 qf0 qf1 hc0 hc1 o0 o1 o2 o3 o4 o5 o6 o7
  obtain ⟨o0, o1, o2, o3, o4, o5, o6, o7⟩ := HO5b.out.eight
  obtain ⟨bc', cp', hvc, -, -, -, hoc', hc0, hc1, hfc⟩ := HM5.out.cars ((j : Int) + 1) (by omega) (by show ((j : Int) + 1) - 1 < ((m.cs.set _ _).length : Int); rw [List.length_set]; omega)
  have hbe : bc' = bc := by have h9 := hoc'.symm.trans HO5.out; injection h9
  subst hbe
  rw [hjn] at hc0 hc1
  rw [show (setC m ((j : Int) + 1) ⟨true, -3⟩).cs.length = 4 by show (m.cs.set _ _).length = 4; rw [List.length_set]; exact d7] at hvc
  obtain ⟨x0, -, -, -, x4, -, -⟩ := HM5.out.cells.seven
  rw [hvc] at x4
  have x0' : W5.cell? ⟨g, 0, none⟩ = some (.int .i64 m.wd) := x0
  have qf1 := hfc (j * 2 + 1)
  have hww : IntKind.i64.wrap (m.wd + 3) = m.wd + 3 := wrap_sm (by omega) (by omega)
  obtain ⟨S6, hm6, hv6, -⟩ := HM5.out.setCp (c := ((j : Int) + 1)) (by omega) (by show ((j : Int) + 1) - 1 < ((m.cs.set _ _).length : Int); rw [List.length_set]; omega) HO5.out (m.wd + 3) HV5.out
  rw [setC_twice, carAt_setC _ (by omega)] at hm6
  simp only [hjn] at hm6 hv6
  have HFIN := Lib.hid (And.intro hm6.drew hv6.drew)
  have q0 : (W5.setCell ⟨bc', j * 2 + 1, none⟩ (.int .i64 (m.wd + 3))).drew.cell? ⟨w.heap.size, 0, none⟩ = some (.int .i64 8) := by show (W5.setCell ⟨bc', j * 2 + 1, none⟩ (.int .i64 (m.wd + 3))).cell? ⟨w.heap.size, 0, none⟩ = _; rw [hfw]; exact o0
  clear hm6 hv6 hvc hfc x0 HM5 HV5 HO5 HO5b
  go_wp2
  go_region
  go_wp2_with fail
  refine (makesLoop_rk 8 _).mono ?_
  rintro e wz ⟨rfl, rfl⟩
  go_wp2
  go_ret
  exact ⟨rfl, _, HFIN.out.1, HFIN.out.2⟩

set_option maxHeartbeats 4000000 in
set_option maxRecDepth 100000 in
theorem exec_3r {w : World} {B g : Nat} {m : Mc} {S : Nat → Spot} (h : MSt w B g m S) (hB : B ≤ w.heap.size) (ok : okM m = true) (fb fa tb ta r : Int) (j : Nat) (hj4 : j < 4) (hop : okOpW m.wd ⟨3, 1, fb, fa, tb, ta, ((j : Int) + 1), r⟩ = true) (h0 : doCode m ⟨3, 1, fb, fa, tb, ta, ((j : Int) + 1), r⟩ = 0) (f0 : 0 ≤ fa) (f1 : fa < m.wd) :
    Calls Tryz.prog 41 #[.pointer (some ⟨g, 0, none⟩), (⟨3, 1, fb, fa, tb, ta, ((j : Int) + 1), r⟩ : Opr).v] w fun e w' => e = .returned (.int .i64 0) ∧ ∃ S', MSt w' B g (doTo m ⟨3, 1, fb, fa, tb, ta, ((j : Int) + 1), r⟩) S' ∧ Mv w S w' S' := by
  have hok := okM_iff.1 ok
  obtain ⟨d1, d2, d3, d4, d5, d6, d7⟩ := ok_wd ok
  have HOP := Lib.hid hop
  have hb0 := (Below.refl w.heap.size w).alloc (Nat.le_refl _) (.cells #[.int .i64 3, .int .i64 1, .int .i64 fb, .int .i64 fa, .int .i64 tb, .int .i64 ta, .int .i64 ((j : Int) + 1), .int .i64 r] 41)
  have HM1 := Lib.hid (h.below hb0)
  have HV1 := Lib.hid (Mv.of_below (S := S) hb0)
  have HO1 := Lib.hid (Bx.new w [.int .i64 3, .int .i64 1, .int .i64 fb, .int .i64 fa, .int .i64 tb, .int .i64 ta, .int .i64 ((j : Int) + 1), .int .i64 r] 41)
  have HNB := Lib.hid (show ¬ blk S w.heap.size from fun e => by have := (h.sp.ge e).2; omega)
  have HQ0 := Lib.hid (fun (W : World) (hW : RdP W g m) => opCode_any m g W hW ok ⟨3, 1, fb, fa, tb, ta, ((j : Int) + 1), r⟩ hop)
  rw [h0] at HQ0
  have hs1 : (w.alloc (.cells #[.int .i64 3, .int .i64 1, .int .i64 fb, .int .i64 fa, .int .i64 tb, .int .i64 ta, .int .i64 ((j : Int) + 1), .int .i64 r] 41)).heap.size = w.heap.size + 1 := by simp
  obtain ⟨-, HT⟩ := do3 (m := m) (x := ⟨3, 1, fb, fa, tb, ta, ((j : Int) + 1), r⟩) rfl
  rw [HT]
  have HCT : carTo m ⟨3, 1, fb, fa, tb, ta, ((j : Int) + 1), r⟩ = setC m ((j : Int) + 1) ⟨(carAt m ((j : Int) + 1)).i, plc fb fa m.rk + 1⟩ := rfl
  rw [HCT]
  clear HCT HT
  have HCS := Lib.hid d7
  have HNBX := HNB
  clear h hb0 ok hop h0
  go_enter Tryz.func41, Tryz.ntmps41
  obtain ⟨o0, o1, o2, o3, o4, o5, o6, o7⟩ := HO1.out.eight
  go_wp2_with fail
  generalize w.alloc (.cells #[.int .i64 3, .int .i64 1, .int .i64 fb, .int .i64 fa, .int .i64 tb, .int .i64 ta, .int .i64 ((j : Int) + 1), .int .i64 r] 41) = W1 at *
  refine (HQ0.out _ HM1.out.rd).mono ?_
  rintro e w2 ⟨rfl, hb2⟩
  have HM2 := Lib.hid (HM1.out.below hb2)
  have HV2 := Lib.hid (HV1.out.below_ hb2)
  have HO2 := Lib.hid (HO1.out.below hb2 HO1.out.2.2)
  have hsz2 : w.heap.size < w2.heap.size := by have := hb2.size; omega
  clear hb2 o0 o1 o2 o3 o4 o5 o6 o7 HM1 HV1 HO1 HQ0
  obtain ⟨o0, o1, o2, o3, o4, o5, o6, o7⟩ := HO2.out.eight
  go_wp2_with fail
  refine (makesLoop_rk 3 _).mono ?_
  rintro e wz ⟨rfl, rfl⟩
  obtain ⟨bc, cp, hvc, hblc, hBc, hbwc, hoc, hc0, hc1, hfc⟩ := HM2.out.cars ((j : Int) + 1) (by omega) (by rw [HCS.out]; omega)
  have hjn : (((j : Int) + 1) - 1).toNat = j := by omega
  rw [hjn] at hc0 hc1
  rw [HCS.out] at hvc
  have z4 : w2.cell? ⟨g, 4, none⟩ = some (.slice (some ⟨bc, 0, none⟩) 4 cp) := by rw [← hvc]; exact HM2.out.cells.seven.2.2.2.2.1
  have z1 : w2.cell? ⟨g, 1, none⟩ = some (.int .i64 m.rk) := by have h9 := HM2.out.cells.seven.2.1; exact h9
  have hgz := HM2.out.size.1
  have hjl : (j : Int) < 4 := by omega
  have hj0 : (0 : Int) ≤ (j : Int) := by omega
  have HQP := Lib.hid (fun (X : World) => place_any fb fa m.rk (by omega) (by omega) (by omega) (by omega) X)
  have hPb : -100 ≤ plc fb fa m.rk ∧ plc fb fa m.rk ≤ 100 := by unfold plc; split <;> omega
  generalize hP : plc fb fa m.rk = P at *
  have HP := Lib.hid hP
  obtain ⟨p0, p1⟩ := hPb
  have hwj : IntKind.i64.wrap (j : Int) = (j : Int) := wrap_sm (by omega) (by omega)
  have hwj1 : IntKind.i64.wrap ((j : Int) + 1 - 1) = (j : Int) := by rw [show (j : Int) + 1 - 1 = (j : Int) by omega]; exact hwj
  have hnj : ¬ ((j : Int) < 0) := by omega
  have hnj4 : ¬ (4 ≤ (j : Int)) := by omega
  have hwP : IntKind.i64.wrap (P + 1) = P + 1 := wrap_sm (by omega) (by omega)
  have hwq : IntKind.i64.wrap ((IntKind.i64.wrap (2)).tdiv 2) = 1 := by decide
  have HSW := Lib.hid (fun (X : World) (hX : Below w2.heap.size w2 X) => show X.cell? ⟨g, 4, none⟩ = some (.slice (some ⟨bc, 0, none⟩) 4 cp) ∧ X.cell? ⟨g, 1, none⟩ = some (.int .i64 m.rk) ∧ X.cell? ⟨w.heap.size, 6, none⟩ = some (.int .i64 ((j : Int) + 1)) ∧ X.cell? ⟨w.heap.size, 2, none⟩ = some (.int .i64 fb) ∧ X.cell? ⟨w.heap.size, 3, none⟩ = some (.int .i64 fa) ∧ X.cell? ⟨w.heap.size, 1, none⟩ = some (.int .i64 (1)) from by
    obtain ⟨-, e1, e2, e3, -, -, e6, -⟩ := (HO2.out.below hX HO2.out.2.2).eight
    exact ⟨(hX.cell (p := ⟨g, 4, none⟩) hgz).trans z4, (hX.cell (p := ⟨g, 1, none⟩) hgz).trans z1, e6, e2, e3, e1⟩)
  have HC1 := Lib.hid (fun (X : World) (hX : Below w2.heap.size w2 X) => (hX.cell (p := ⟨bc, j * 2 + 1, none⟩) hbwc).trans hc1)
  have HFC := Lib.hid (fun (X : World) (hX : Below w2.heap.size w2 X) => (hX.frozen (p := ⟨bc, j * 2 + 1, none⟩) hbwc).trans (hfc _))
  have hcg : bc ≠ g := fun e => HM2.out.sp.dis (i := 3) (j := 0) (by omega) (by rw [hoc, e]) HM2.out.gbox
  have hcw : bc ≠ w.heap.size := fun e => HNBX.out (by rw [← e]; exact hblc)
  have hfg := far_cell hcg
  have hfw := far_cell hcw
  clear hP hvc hc0 hc1 hfc o1 o2 o3 o4 o5 o6 o7
  go_upto_region 28 with fail
  go_region_held3 (fun w' => w'.cell? ⟨g, 4, none⟩ = some (.slice (some ⟨bc, 0, none⟩) 4 cp) ∧ w'.cell? ⟨g, 1, none⟩ = some (.int .i64 m.rk) ∧ w'.cell? ⟨w.heap.size, 6, none⟩ = some (.int .i64 ((j : Int) + 1)) ∧ w'.cell? ⟨w.heap.size, 2, none⟩ = some (.int .i64 fb) ∧ w'.cell? ⟨w.heap.size, 3, none⟩ = some (.int .i64 fa) ∧ w'.cell? ⟨w.heap.size, 1, none⟩ = some (.int .i64 (1)))
    (first | with_reducible exact HSW.out _ (Below.refl _ _) | with_reducible exact HSW.out _ (Below.refl _ _).drew | with_reducible exact HSW.out _ hbP | (simp only [hfg, hfw]; with_reducible exact HSW.out _ hbP) | go_keep)
    (first
      | (go_at_call 84; refine (HQP.out _).mono ?_; rintro e wP ⟨rfl, hbP0⟩; have hbP : Below w2.heap.size w2 wP := (Below.refl w2.heap.size w2).drew.trans hbP0; have tc := HC1.out _ hbP; have tf := HFC.out _ hbP))
  all_goals
    obtain ⟨S5, hm5, hv5, -⟩ := (HM2.out.below hbP).setCp (c := ((j : Int) + 1)) (by omega) (by rw [HCS.out]; omega) hoc (P + 1) (HV2.out.below_ hbP)
    simp only [hjn] at hm5 hv5
    have HM5 := Lib.hid hm5
    have HV5 := Lib.hid hv5
    clear hm5 hv5 hbP hbP0 tc tf HSW HC1 HFC hfg hfw
    go_wp2
    go_ret
    exact ⟨rfl, S5, by rw [HP.out]; exact HM5.out, HV5.out⟩

set_option maxHeartbeats 4000000 in
set_option maxRecDepth 100000 in
theorem exec_3l {w : World} {B g : Nat} {m : Mc} {S : Nat → Spot} (h : MSt w B g m S) (hB : B ≤ w.heap.size) (ok : okM m = true) (fb fa tb ta r : Int) (j : Nat) (hj4 : j < 4) (hop : okOpW m.wd ⟨3, -1, fb, fa, tb, ta, ((j : Int) + 1), r⟩ = true) (h0 : doCode m ⟨3, -1, fb, fa, tb, ta, ((j : Int) + 1), r⟩ = 0) (f0 : 0 ≤ fa) (f1 : fa < m.wd) :
    Calls Tryz.prog 41 #[.pointer (some ⟨g, 0, none⟩), (⟨3, -1, fb, fa, tb, ta, ((j : Int) + 1), r⟩ : Opr).v] w fun e w' => e = .returned (.int .i64 0) ∧ ∃ S', MSt w' B g (doTo m ⟨3, -1, fb, fa, tb, ta, ((j : Int) + 1), r⟩) S' ∧ Mv w S w' S' := by
  have hok := okM_iff.1 ok
  obtain ⟨d1, d2, d3, d4, d5, d6, d7⟩ := ok_wd ok
  have HOP := Lib.hid hop
  have hb0 := (Below.refl w.heap.size w).alloc (Nat.le_refl _) (.cells #[.int .i64 3, .int .i64 (-1), .int .i64 fb, .int .i64 fa, .int .i64 tb, .int .i64 ta, .int .i64 ((j : Int) + 1), .int .i64 r] 41)
  have HM1 := Lib.hid (h.below hb0)
  have HV1 := Lib.hid (Mv.of_below (S := S) hb0)
  have HO1 := Lib.hid (Bx.new w [.int .i64 3, .int .i64 (-1), .int .i64 fb, .int .i64 fa, .int .i64 tb, .int .i64 ta, .int .i64 ((j : Int) + 1), .int .i64 r] 41)
  have HNB := Lib.hid (show ¬ blk S w.heap.size from fun e => by have := (h.sp.ge e).2; omega)
  have HQ0 := Lib.hid (fun (W : World) (hW : RdP W g m) => opCode_any m g W hW ok ⟨3, -1, fb, fa, tb, ta, ((j : Int) + 1), r⟩ hop)
  rw [h0] at HQ0
  have hs1 : (w.alloc (.cells #[.int .i64 3, .int .i64 (-1), .int .i64 fb, .int .i64 fa, .int .i64 tb, .int .i64 ta, .int .i64 ((j : Int) + 1), .int .i64 r] 41)).heap.size = w.heap.size + 1 := by simp
  obtain ⟨-, HT⟩ := do3 (m := m) (x := ⟨3, -1, fb, fa, tb, ta, ((j : Int) + 1), r⟩) rfl
  rw [HT]
  have HCT : carTo m ⟨3, -1, fb, fa, tb, ta, ((j : Int) + 1), r⟩ = setC m ((j : Int) + 1) ⟨(carAt m ((j : Int) + 1)).i, plc fb fa m.rk⟩ := rfl
  rw [HCT]
  clear HCT HT
  have HCS := Lib.hid d7
  have HNBX := HNB
  clear h hb0 ok hop h0
  go_enter Tryz.func41, Tryz.ntmps41
  obtain ⟨o0, o1, o2, o3, o4, o5, o6, o7⟩ := HO1.out.eight
  go_wp2_with fail
  generalize w.alloc (.cells #[.int .i64 3, .int .i64 (-1), .int .i64 fb, .int .i64 fa, .int .i64 tb, .int .i64 ta, .int .i64 ((j : Int) + 1), .int .i64 r] 41) = W1 at *
  refine (HQ0.out _ HM1.out.rd).mono ?_
  rintro e w2 ⟨rfl, hb2⟩
  have HM2 := Lib.hid (HM1.out.below hb2)
  have HV2 := Lib.hid (HV1.out.below_ hb2)
  have HO2 := Lib.hid (HO1.out.below hb2 HO1.out.2.2)
  have hsz2 : w.heap.size < w2.heap.size := by have := hb2.size; omega
  clear hb2 o0 o1 o2 o3 o4 o5 o6 o7 HM1 HV1 HO1 HQ0
  obtain ⟨o0, o1, o2, o3, o4, o5, o6, o7⟩ := HO2.out.eight
  go_wp2_with fail
  refine (makesLoop_rk 3 _).mono ?_
  rintro e wz ⟨rfl, rfl⟩
  obtain ⟨bc, cp, hvc, hblc, hBc, hbwc, hoc, hc0, hc1, hfc⟩ := HM2.out.cars ((j : Int) + 1) (by omega) (by rw [HCS.out]; omega)
  have hjn : (((j : Int) + 1) - 1).toNat = j := by omega
  rw [hjn] at hc0 hc1
  rw [HCS.out] at hvc
  have z4 : w2.cell? ⟨g, 4, none⟩ = some (.slice (some ⟨bc, 0, none⟩) 4 cp) := by rw [← hvc]; exact HM2.out.cells.seven.2.2.2.2.1
  have z1 : w2.cell? ⟨g, 1, none⟩ = some (.int .i64 m.rk) := by have h9 := HM2.out.cells.seven.2.1; exact h9
  have hgz := HM2.out.size.1
  have hjl : (j : Int) < 4 := by omega
  have hj0 : (0 : Int) ≤ (j : Int) := by omega
  have HQP := Lib.hid (fun (X : World) => place_any fb fa m.rk (by omega) (by omega) (by omega) (by omega) X)
  have hPb : -100 ≤ plc fb fa m.rk ∧ plc fb fa m.rk ≤ 100 := by unfold plc; split <;> omega
  generalize hP : plc fb fa m.rk = P at *
  have HP := Lib.hid hP
  obtain ⟨p0, p1⟩ := hPb
  have hwj : IntKind.i64.wrap (j : Int) = (j : Int) := wrap_sm (by omega) (by omega)
  have hwj1 : IntKind.i64.wrap ((j : Int) + 1 - 1) = (j : Int) := by rw [show (j : Int) + 1 - 1 = (j : Int) by omega]; exact hwj
  have hnj : ¬ ((j : Int) < 0) := by omega
  have hnj4 : ¬ (4 ≤ (j : Int)) := by omega
  have hwP : IntKind.i64.wrap (P) = P := wrap_sm (by omega) (by omega)
  have hwq : IntKind.i64.wrap ((IntKind.i64.wrap (0)).tdiv 2) = 0 := by decide
  have HSW := Lib.hid (fun (X : World) (hX : Below w2.heap.size w2 X) => show X.cell? ⟨g, 4, none⟩ = some (.slice (some ⟨bc, 0, none⟩) 4 cp) ∧ X.cell? ⟨g, 1, none⟩ = some (.int .i64 m.rk) ∧ X.cell? ⟨w.heap.size, 6, none⟩ = some (.int .i64 ((j : Int) + 1)) ∧ X.cell? ⟨w.heap.size, 2, none⟩ = some (.int .i64 fb) ∧ X.cell? ⟨w.heap.size, 3, none⟩ = some (.int .i64 fa) ∧ X.cell? ⟨w.heap.size, 1, none⟩ = some (.int .i64 (-1)) from by
    obtain ⟨-, e1, e2, e3, -, -, e6, -⟩ := (HO2.out.below hX HO2.out.2.2).eight
    exact ⟨(hX.cell (p := ⟨g, 4, none⟩) hgz).trans z4, (hX.cell (p := ⟨g, 1, none⟩) hgz).trans z1, e6, e2, e3, e1⟩)
  have HC1 := Lib.hid (fun (X : World) (hX : Below w2.heap.size w2 X) => (hX.cell (p := ⟨bc, j * 2 + 1, none⟩) hbwc).trans hc1)
  have HFC := Lib.hid (fun (X : World) (hX : Below w2.heap.size w2 X) => (hX.frozen (p := ⟨bc, j * 2 + 1, none⟩) hbwc).trans (hfc _))
  have hcg : bc ≠ g := fun e => HM2.out.sp.dis (i := 3) (j := 0) (by omega) (by rw [hoc, e]) HM2.out.gbox
  have hcw : bc ≠ w.heap.size := fun e => HNBX.out (by rw [← e]; exact hblc)
  have hfg := far_cell hcg
  have hfw := far_cell hcw
  clear hP hvc hc0 hc1 hfc o1 o2 o3 o4 o5 o6 o7
  go_upto_region 28 with fail
  go_region_held3 (fun w' => w'.cell? ⟨g, 4, none⟩ = some (.slice (some ⟨bc, 0, none⟩) 4 cp) ∧ w'.cell? ⟨g, 1, none⟩ = some (.int .i64 m.rk) ∧ w'.cell? ⟨w.heap.size, 6, none⟩ = some (.int .i64 ((j : Int) + 1)) ∧ w'.cell? ⟨w.heap.size, 2, none⟩ = some (.int .i64 fb) ∧ w'.cell? ⟨w.heap.size, 3, none⟩ = some (.int .i64 fa) ∧ w'.cell? ⟨w.heap.size, 1, none⟩ = some (.int .i64 (-1)))
    (first | with_reducible exact HSW.out _ (Below.refl _ _) | with_reducible exact HSW.out _ (Below.refl _ _).drew | with_reducible exact HSW.out _ hbP | (simp only [hfg, hfw]; with_reducible exact HSW.out _ hbP) | go_keep)
    (first
      | (go_at_call 84; refine (HQP.out _).mono ?_; rintro e wP ⟨rfl, hbP0⟩; have hbP : Below w2.heap.size w2 wP := (Below.refl w2.heap.size w2).drew.trans hbP0; have tc := HC1.out _ hbP; have tf := HFC.out _ hbP))
  all_goals
    obtain ⟨S5, hm5, hv5, -⟩ := (HM2.out.below hbP).setCp (c := ((j : Int) + 1)) (by omega) (by rw [HCS.out]; omega) hoc (P) (HV2.out.below_ hbP)
    simp only [hjn] at hm5 hv5
    have HM5 := Lib.hid hm5
    have HV5 := Lib.hid hv5
    clear hm5 hv5 hbP hbP0 tc tf HSW HC1 HFC hfg hfw
    go_wp2
    go_ret
    exact ⟨rfl, S5, by rw [HP.out]; exact HM5.out, HV5.out⟩


end Go.Proofs.YthhpjgdeehcgjaaGreat

/-
  The program's execute on a machine of its own: knit and tuck.
-/
namespace Go.Proofs.YthhpjgdeehcgjaaGreat
set_option linter.unusedVariables false
set_option linter.unusedSimpArgs false
open Go.RowKit

theorem setL_rk (m : Mc) (n : Int × Int) (l : List Int) : (setL m n l).rk = m.rk := by unfold setL; split <;> rfl
theorem setL_cs (m : Mc) (n : Int × Int) (l : List Int) : (setL m n l).cs = m.cs := by unfold setL; split <;> rfl
theorem carAt_cs {m m' : Mc} (h : m'.cs = m.cs) (c : Int) : carAt m' c = carAt m c := by unfold carAt; rw [h]
theorem setC_setL (m : Mc) (c : Int) (y : Car) (n : Int × Int) (l : List Int) : setC (setL m n l) c y = setL (setC m c y) n l := by unfold setC setL; split <;> rfl
theorem setC_addLp (m : Mc) (c : Int) (y : Car) (x : Opr) (l : List Int) : setC (addLp m x l) c y = addLp (setC m c y) x l := rfl
theorem setL_setL (m : Mc) (n : Int × Int) (l l' : List Int) : setL (setL m n l) n l' = setL m n l' := by
  by_cases h : n.1 = 2
  · simp [setL, h]
  · simp [setL, h]
theorem fin1 (m : Mc) (x : Opr) (y : Car) (c : Int) (ps L : List Int) : setC (setL (addLp (setL m x.f []) x ps) x.f L) c y = setL (addLp (setC m c y) x ps) x.f L := by
  rw [setC_setL, setC_addLp, setC_setL, addLp_setL, setL_setL]
theorem fin2 (m : Mc) (x : Opr) (y : Car) (c : Int) (ps L : List Int) : setC (setL (addLp m x ps) x.f L) c y = setL (addLp (setC m c y) x ps) x.f L := by
  rw [setC_setL, setC_addLp]
theorem mvTo_setC (m : Mc) (x : Opr) (c : Int) (y : Car) : mvTo (setC m c y) x = setC (mvTo m x) c y := by
  unfold mvTo
  rw [setC_setL, setC_setL]
  rfl
theorem fin5 (m : Mc) (x : Opr) (y : Car) (c : Int) (ps L : List Int) : setC (setL (addLp (mvTo m x) x ps) x.f L) c y = setL (addLp (mvTo (setC m c y) x) x ps) x.f L := by
  rw [setC_setL, setC_addLp, mvTo_setC]

set_option maxHeartbeats 4000000 in
set_option maxRecDepth 100000 in
theorem exec_1r {w : World} {B g : Nat} {m : Mc} {S : Nat → Spot} (h : MSt w B g m S) (hB : B ≤ w.heap.size) (ok : okM m = true) (fb fa tb ta r : Int) (j : Nat) (hj4 : j < 4) (hop : okOpW m.wd ⟨1, 1, fb, fa, tb, ta, ((j : Int) + 1), r⟩ = true) (h0 : doCode m ⟨1, 1, fb, fa, tb, ta, ((j : Int) + 1), r⟩ = 0) (f0 : 0 ≤ fa) (f1 : fa < m.wd) (hn : ndIn m (fb, fa)) (hl3 : m.ls.length < 300) :
    Calls Tryz.prog 41 #[.pointer (some ⟨g, 0, none⟩), (⟨1, 1, fb, fa, tb, ta, ((j : Int) + 1), r⟩ : Opr).v] w fun e w' => e = .returned (.int .i64 0) ∧ ∃ S', MSt w' B g (doTo m ⟨1, 1, fb, fa, tb, ta, ((j : Int) + 1), r⟩) S' ∧ Mv w S w' S' := by
  have hok := okM_iff.1 ok
  obtain ⟨d1, d2, d3, d4, d5, d6, d7⟩ := ok_wd ok
  have HOP := Lib.hid hop
  have hb0 := (Below.refl w.heap.size w).alloc (Nat.le_refl _) (.cells #[.int .i64 1, .int .i64 1, .int .i64 fb, .int .i64 fa, .int .i64 tb, .int .i64 ta, .int .i64 ((j : Int) + 1), .int .i64 r] 41)
  have HM1 := Lib.hid (h.below hb0)
  have HV1 := Lib.hid (Mv.of_below (S := S) hb0)
  have HO1 := Lib.hid (Bx.new w [.int .i64 1, .int .i64 1, .int .i64 fb, .int .i64 fa, .int .i64 tb, .int .i64 ta, .int .i64 ((j : Int) + 1), .int .i64 r] 41)
  have HNB := Lib.hid (show ¬ blk S w.heap.size from fun e => by have := (h.sp.ge e).2; omega)
  have HQ0 := Lib.hid (fun (W : World) (hW : RdP W g m) => opCode_any m g W hW ok ⟨1, 1, fb, fa, tb, ta, ((j : Int) + 1), r⟩ hop)
  rw [h0] at HQ0
  have hs1 : (w.alloc (.cells #[.int .i64 1, .int .i64 1, .int .i64 fb, .int .i64 fa, .int .i64 tb, .int .i64 ta, .int .i64 ((j : Int) + 1), .int .i64 r] 41)).heap.size = w.heap.size + 1 := by simp
  have HNF := Lib.hid hn
  have hon4 : (onL m (fb, fa)).length ≤ 4 := hok.on4 (fb, fa)
  obtain ⟨Y, hY⟩ : ∃ Y, Y = doTo m ⟨1, 1, fb, fa, tb, ta, ((j : Int) + 1), r⟩ := ⟨_, rfl⟩
  have hY2 : Y = setC (setL (addLp (setL m (fb, fa) []) ⟨1, 1, fb, fa, tb, ta, ((j : Int) + 1), r⟩ (onL m (fb, fa))) (fb, fa) (onL (setL m (fb, fa) []) (fb, fa) ++ [((setL m (fb, fa) []).ls.length : Int)])) ((j : Int) + 1) ⟨(carAt (setL (addLp (setL m (fb, fa) []) ⟨1, 1, fb, fa, tb, ta, ((j : Int) + 1), r⟩ (onL m (fb, fa))) (fb, fa) (onL (setL m (fb, fa) []) (fb, fa) ++ [((setL m (fb, fa) []).ls.length : Int)])) ((j : Int) + 1)).i, plc fb fa m.rk + 1⟩ := by
    have e1 := (do125 (m := m) (x := ⟨1, 1, fb, fa, tb, ta, ((j : Int) + 1), r⟩) (.inl rfl)).2
    have e2 : onL (setL m (fb, fa) []) (fb, fa) = [] := onL_setL [] hn
    rw [hY, e1, e2, carAt_cs (m := m) (by rw [setL_cs]; show (setL m _ _).cs = _; rw [setL_cs]), setL_ls]
    show setL (addLp (carTo m ⟨1, 1, fb, fa, tb, ta, ((j : Int) + 1), r⟩) ⟨1, 1, fb, fa, tb, ta, ((j : Int) + 1), r⟩ (onL m (fb, fa))) (fb, fa) [(m.ls.length : Int)] = _
    rw [show carTo m ⟨1, 1, fb, fa, tb, ta, ((j : Int) + 1), r⟩ = setC m ((j : Int) + 1) ⟨(carAt m ((j : Int) + 1)).i, plc fb fa m.rk + 1⟩ from rfl]
    exact (fin1 m ⟨1, 1, fb, fa, tb, ta, ((j : Int) + 1), r⟩ _ _ _ _).symm
  rw [← hY]
  have HY := Lib.hid hY2
  clear hY hY2
  clear h hb0 ok hop h0
  go_enter Tryz.func41, Tryz.ntmps41
  obtain ⟨o0, o1, o2, o3, o4, o5, o6, o7⟩ := HO1.out.eight
  go_wp2_with fail
  generalize w.alloc (.cells #[.int .i64 1, .int .i64 1, .int .i64 fb, .int .i64 fa, .int .i64 tb, .int .i64 ta, .int .i64 ((j : Int) + 1), .int .i64 r] 41) = W1 at *
  refine (HQ0.out _ HM1.out.rd).mono ?_
  rintro e w2 ⟨rfl, hb2⟩
  have HM2 := Lib.hid (HM1.out.below hb2)
  have HV2 := Lib.hid (HV1.out.below_ hb2)
  have HO2 := Lib.hid (HO1.out.below hb2 HO1.out.2.2)
  have hsz2 : w.heap.size < w2.heap.size := by have := hb2.size; omega
  clear hb2 o0 o1 o2 o3 o4 o5 o6 o7 HM1 HV1 HO1 HQ0
  obtain ⟨o0, o1, o2, o3, o4, o5, o6, o7⟩ := HO2.out.eight
  obtain ⟨bF, cF, LF, hvF, hltF, hbF, hbFw, hBF, hcellF, hfrF, -, hset⟩ := HM2.out.nd3 HNF.out
  obtain ⟨hrF, ⟨Af, cf, hvf, -⟩, -⟩ := HM2.out.onR HNF.out
  obtain ⟨haf1, -, -⟩ := nd_apart HM2.out hvF (fb, fa)
  rw [hvf] at haf1
  have hcellF' : w2.cell? ⟨bF, fa.toNat, none⟩ = some (.slice Af (onL m (fb, fa)).length cf) := by rw [← hvf]; exact hcellF
  have HRF := Lib.hid hrF
  have HAF := Lib.hid haf1
  have HVF := Lib.hid hvf
  have HSET := Lib.hid hset
  have HON := Lib.hid (fun (X : World) (hX : Below w2.heap.size w2 X) => on_ms (HM2.out.below hX) (fb, fa) HNF.out bF cF LF hvF hltF)
  have HFR := Lib.hid (fun (X : World) (hX : Below w2.heap.size w2 X) => (hX.frozen (p := ⟨bF, fa.toNat, none⟩) hbFw).trans (hfrF _))
  have HCF := Lib.hid (fun (X : World) (hX : Below w2.heap.size w2 X) => (hX.cell (p := ⟨bF, fa.toNat, none⟩) hbFw).trans hcellF')
  clear hvF hltF hcellF hfrF hset hrF hvf haf1 hcellF'
  go_wp2_with fail
  refine (HON.out _ (Below.refl _ _)).mono ?_
  rintro e w3 ⟨rfl, hb3⟩
  have yF := HCF.out _ hb3
  clear o0 o1 o2 o3 o4 o5 o6 o7
  obtain ⟨o0, o1, o2, o3, o4, o5, o6, o7⟩ := (HO2.out.below hb3 HO2.out.2.2).eight
  go_wp2_with fail
  refine (HON.out _ hb3).mono ?_
  rintro e w4 ⟨rfl, hb4'⟩
  have hb4 : Below w2.heap.size w2 w4 := hb3.trans (hb4'.mono hb3.size)
  have HM4 := Lib.hid (HM2.out.below hb4)
  have yF4 := HCF.out _ hb4
  have zF4 := HFR.out _ hb4
  obtain ⟨S5, hm5, hmv5, hk5, hs5⟩ := HSET.out w4 [] (.slice none 0 0) (HM4.out.sp.putNone (iN (fb, fa)) 2 1)
  have hv5 := hmv5 w S ((HV2.out.below_ hb4).put (iN (fb, fa)) (spI (.slice none 0 0) []) (fun q hq => by cases hq))
  have hq5 := hmv5 w2 S ((Mv.of_below (S := S) hb4).put (iN (fb, fa)) (spI (.slice none 0 0) []) (fun q hq => by cases hq))
  have hot5 : OnlyT (fun q => q = bF) w2 (w4.setCell ⟨bF, fa.toNat, none⟩ (.slice none 0 0)) := (OnlyT.of_below (T := fun q => q = bF) hb4).setCell (p := ⟨bF, fa.toNat, none⟩) (.inl rfl) _
  have hrd5 : RdI (w4.setCell ⟨bF, fa.toNat, none⟩ (.slice none 0 0)) (w4.setCell ⟨bF, fa.toNat, none⟩ (.slice none 0 0)).heap.size (.slice Af (onL m (fb, fa)).length cf) (onL m (fb, fa)) := by
    have h8 := HRF.out
    rw [HVF.out] at h8
    refine RdI.more (h8.onlyT hot5 (fun b off n c e h7 => ?_)) hot5.size
    exact HAF.out (by rw [e, ← h7]; rfl)
  have hnb5 : ∀ b off n c, Value.slice Af (onL m (fb, fa)).length cf = .slice (some ⟨b, off, none⟩) n c → ¬ blk S5 b := fun b off n c e => by
    have h9 : (S (iN (fb, fa))).v.ownBlock = some b := by rw [HVF.out, e]; rfl
    rintro ⟨j', hj'⟩
    by_cases hjf : j' = iN (fb, fa)
    · rw [hjf, hs5] at hj'; cases hj'
    · rw [hk5 j' hjf] at hj'
      exact HM4.out.sp.dis (i := iN (fb, fa)) (j := j') (Ne.symm hjf) h9 hj'
  have hbw : bF ≠ w.heap.size := fun e => HNB.out (by rw [← e]; exact hbF)
  have hob5 := hot5.cells (g := w.heap.size) (o := 0) (fun e => hbw e.symm) HO2.out.1
  have hw5 : w.heap.size < (w4.setCell ⟨bF, fa.toNat, none⟩ (.slice none 0 0)).heap.size := Nat.lt_of_lt_of_le hsz2 hot5.size
  have hnw5 := hq5.nblk HNB.out hsz2
  have hn5 := ndIn_setL (t := (fb, fa)) (l := []) HNF.out
  have hol5 : (onL (setL m (fb, fa) []) (fb, fa)).length ≤ 4 := by rw [onL_setL [] HNF.out]; simp
  have hll5 : (setL m (fb, fa) []).ls.length < 300 := by rw [setL_ls]; exact hl3
  have HLP := Lib.hid (loop_any hm5 (by omega) ⟨1, 1, fb, fa, tb, ta, ((j : Int) + 1), r⟩ _ _ hrd5 hnb5 hon4 hll5 hn5 hol5)
  have HV5 := Lib.hid hv5
  have HO5 : Hid (OpAt (w4.setCell ⟨bF, fa.toNat, none⟩ (.slice none 0 0)) w.heap.size 0 ⟨1, 1, fb, fa, tb, ta, ((j : Int) + 1), r⟩) := hob5
  have HN5 := Lib.hid hnw5
  have HFZ : Hid (∀ (X : World) {S6 : Nat → Spot}, Mv (w4.setCell ⟨bF, fa.toNat, none⟩ (.slice none 0 0)) S5 X S6 → ∀ i, X.frozen? ⟨w.heap.size, i, none⟩ = false) := fun X S6 hX i => (hX.only.frozen (p := ⟨w.heap.size, i, none⟩) hw5 hnw5).trans ((hot5.frozen (p := ⟨w.heap.size, i, none⟩) hsz2 (fun e => hbw e.symm)).trans (HO2.out.2.1 i))
  clear o0 o1 o2 o3 o4 o5 o6 o7
  have hfwF := far_cell hbw
  obtain ⟨o0, o1, o2, o3, o4, o5, o6, o7⟩ := (HO2.out.below hb4 HO2.out.2.2).eight
  clear hm5 hmv5 hk5 hs5 hv5 hq5 hot5 hrd5 hnb5 hob5 hnw5 hn5 hol5 hll5 hb3 hb4' hb4 HSET HON HFR HCF HRF HAF HVF HM4 HM2 HV2 HO2
  go_wp2_with fail
  refine (HLP.out).mono ?_
  rintro e w6 ⟨rfl, S6, hm6, hv6⟩
  have HM6 := Lib.hid hm6
  have HV6 := Lib.hid (HV5.out.trans hv6)
  have hob6 : OpAt w6 w.heap.size 0 ⟨1, 1, fb, fa, tb, ta, ((j : Int) + 1), r⟩ := hv6.only.cells HN5.out HO5.out
  have hw6 : w.heap.size < w6.heap.size := Nat.lt_of_lt_of_le hw5 hv6.size
  have HNBX := Lib.hid (hv6.nblk HN5.out hw5)
  have HO6 : Hid (Bx w6 w.heap.size [.int .i64 1, .int .i64 1, .int .i64 fb, .int .i64 fa, .int .i64 tb, .int .i64 ta, .int .i64 ((j : Int) + 1), .int .i64 r]) := ⟨hob6, HFZ.out w6 hv6, hw6⟩
  clear o0 o1 o2 o3 o4 o5 o6 o7 hm6 hv6 hob6 HLP HV5 HO5 HN5 HFZ
  obtain ⟨o0, o1, o2, o3, o4, o5, o6, o7⟩ := HO6.out.eight
  have HCS : Hid ((setL (addLp (setL m (fb, fa) []) ⟨1, 1, fb, fa, tb, ta, ((j : Int) + 1), r⟩ (onL m (fb, fa))) (fb, fa) (onL (setL m (fb, fa) []) (fb, fa) ++ [((setL m (fb, fa) []).ls.length : Int)])).cs.length = 4) := by
    unfold Hid; rw [setL_cs]; show (setL m _ _).cs.length = 4; rw [setL_cs]; exact d7
  have HRK : Hid ((setL (addLp (setL m (fb, fa) []) ⟨1, 1, fb, fa, tb, ta, ((j : Int) + 1), r⟩ (onL m (fb, fa))) (fb, fa) (onL (setL m (fb, fa) []) (fb, fa) ++ [((setL m (fb, fa) []).ls.length : Int)])).rk = m.rk) := by
    unfold Hid; rw [setL_rk]; show (setL m _ _).rk = _; rw [setL_rk]
  generalize setL (addLp (setL m (fb, fa) []) ⟨1, 1, fb, fa, tb, ta, ((j : Int) + 1), r⟩ (onL m (fb, fa))) (fb, fa) (onL (setL m (fb, fa) []) (fb, fa) ++ [((setL m (fb, fa) []).ls.length : Int)]) = MX at *
  clear yF yF4 zF4 hfwF
  go_wp2_with fail
  refine (makesLoop_rk 1 _).mono ?_
  rintro e wz ⟨rfl, rfl⟩
  obtain ⟨bc, cp, hvc, hblc, hBc, hbwc, hoc, hc0, hc1, hfc⟩ := HM6.out.cars ((j : Int) + 1) (by omega) (by rw [HCS.out]; omega)
  have hjn : (((j : Int) + 1) - 1).toNat = j := by omega
  rw [hjn] at hc0 hc1
  rw [HCS.out] at hvc
  have z4 : w6.cell? ⟨g, 4, none⟩ = some (.slice (some ⟨bc, 0, none⟩) 4 cp) := by rw [← hvc]; exact HM6.out.cells.seven.2.2.2.2.1
  have z1 : w6.cell? ⟨g, 1, none⟩ = some (.int .i64 m.rk) := by have h9 := HM6.out.cells.seven.2.1; rw [HRK.out] at h9; exact h9
  have hgz := HM6.out.size.1
  have hjl : (j : Int) < 4 := by omega
  have hj0 : (0 : Int) ≤ (j : Int) := by omega
  have HQP := Lib.hid (fun (X : World) => place_any fb fa m.rk (by omega) (by omega) (by omega) (by omega) X)
  have hPb : -100 ≤ plc fb fa m.rk ∧ plc fb fa m.rk ≤ 100 := by unfold plc; split <;> omega
  generalize hP : plc fb fa m.rk = P at *
  have HP := Lib.hid hP
  obtain ⟨p0, p1⟩ := hPb
  have hwj : IntKind.i64.wrap (j : Int) = (j : Int) := wrap_sm (by omega) (by omega)
  have hwj1 : IntKind.i64.wrap ((j : Int) + 1 - 1) = (j : Int) := by rw [show (j : Int) + 1 - 1 = (j : Int) by omega]; exact hwj
  have hnj : ¬ ((j : Int) < 0) := by omega
  have hnj4 : ¬ (4 ≤ (j : Int)) := by omega
  have hwP : IntKind.i64.wrap (P + 1) = P + 1 := wrap_sm (by omega) (by omega)
  have hwq : IntKind.i64.wrap ((IntKind.i64.wrap (2)).tdiv 2) = 1 := by decide
  have HSW := Lib.hid (fun (X : World) (hX : Below w6.heap.size w6 X) => show X.cell? ⟨g, 4, none⟩ = some (.slice (some ⟨bc, 0, none⟩) 4 cp) ∧ X.cell? ⟨g, 1, none⟩ = some (.int .i64 m.rk) ∧ X.cell? ⟨w.heap.size, 6, none⟩ = some (.int .i64 ((j : Int) + 1)) ∧ X.cell? ⟨w.heap.size, 2, none⟩ = some (.int .i64 fb) ∧ X.cell? ⟨w.heap.size, 3, none⟩ = some (.int .i64 fa) ∧ X.cell? ⟨w.heap.size, 1, none⟩ = some (.int .i64 (1)) from by
    obtain ⟨-, e1, e2, e3, -, -, e6, -⟩ := (HO6.out.below hX HO6.out.2.2).eight
    exact ⟨(hX.cell (p := ⟨g, 4, none⟩) hgz).trans z4, (hX.cell (p := ⟨g, 1, none⟩) hgz).trans z1, e6, e2, e3, e1⟩)
  have HC1 := Lib.hid (fun (X : World) (hX : Below w6.heap.size w6 X) => (hX.cell (p := ⟨bc, j * 2 + 1, none⟩) hbwc).trans hc1)
  have HFC := Lib.hid (fun (X : World) (hX : Below w6.heap.size w6 X) => (hX.frozen (p := ⟨bc, j * 2 + 1, none⟩) hbwc).trans (hfc _))
  have hcg : bc ≠ g := fun e => HM6.out.sp.dis (i := 3) (j := 0) (by omega) (by rw [hoc, e]) HM6.out.gbox
  have hcw : bc ≠ w.heap.size := fun e => HNBX.out (by rw [← e]; exact hblc)
  have hfg := far_cell hcg
  have hfw := far_cell hcw
  clear hP hvc hc0 hc1 hfc o1 o2 o3 o4 o5 o6 o7
  go_upto_region 28 with fail
  go_region_held3 (fun w' => w'.cell? ⟨g, 4, none⟩ = some (.slice (some ⟨bc, 0, none⟩) 4 cp) ∧ w'.cell? ⟨g, 1, none⟩ = some (.int .i64 m.rk) ∧ w'.cell? ⟨w.heap.size, 6, none⟩ = some (.int .i64 ((j : Int) + 1)) ∧ w'.cell? ⟨w.heap.size, 2, none⟩ = some (.int .i64 fb) ∧ w'.cell? ⟨w.heap.size, 3, none⟩ = some (.int .i64 fa) ∧ w'.cell? ⟨w.heap.size, 1, none⟩ = some (.int .i64 (1)))
    (first | with_reducible exact HSW.out _ (Below.refl _ _) | with_reducible exact HSW.out _ (Below.refl _ _).drew | with_reducible exact HSW.out _ hbP | (simp only [hfg, hfw]; with_reducible exact HSW.out _ hbP) | go_keep)
    (first
      | (go_at_call 84; refine (HQP.out _).mono ?_; rintro e wP ⟨rfl, hbP0⟩; have hbP : Below w6.heap.size w6 wP := (Below.refl w6.heap.size w6).drew.trans hbP0; have tc := HC1.out _ hbP; have tf := HFC.out _ hbP))
  all_goals
    obtain ⟨S5, hm5, hv5, -⟩ := (HM6.out.below hbP).setCp (c := ((j : Int) + 1)) (by omega) (by rw [HCS.out]; omega) hoc (P + 1) (HV6.out.below_ hbP)
    simp only [hjn] at hm5 hv5
    have HM5 := Lib.hid hm5
    have HV5 := Lib.hid hv5
    clear hm5 hv5 hbP hbP0 tc tf HSW HC1 HFC hfg hfw
    go_wp2
    go_ret
    exact ⟨rfl, S5, by rw [HY.out]; exact HM5.out, HV5.out⟩

set_option maxHeartbeats 4000000 in
set_option maxRecDepth 100000 in
theorem exec_2r {w : World} {B g : Nat} {m : Mc} {S : Nat → Spot} (h : MSt w B g m S) (hB : B ≤ w.heap.size) (ok : okM m = true) (fb fa tb ta r : Int) (j : Nat) (hj4 : j < 4) (hop : okOpW m.wd ⟨2, 1, fb, fa, tb, ta, ((j : Int) + 1), r⟩ = true) (h0 : doCode m ⟨2, 1, fb, fa, tb, ta, ((j : Int) + 1), r⟩ = 0) (f0 : 0 ≤ fa) (f1 : fa < m.wd) (hn : ndIn m (fb, fa)) (hl3 : m.ls.length < 300) :
    Calls Tryz.prog 41 #[.pointer (some ⟨g, 0, none⟩), (⟨2, 1, fb, fa, tb, ta, ((j : Int) + 1), r⟩ : Opr).v] w fun e w' => e = .returned (.int .i64 0) ∧ ∃ S', MSt w' B g (doTo m ⟨2, 1, fb, fa, tb, ta, ((j : Int) + 1), r⟩) S' ∧ Mv w S w' S' := by
  have hok := okM_iff.1 ok
  obtain ⟨d1, d2, d3, d4, d5, d6, d7⟩ := ok_wd ok
  have HOP := Lib.hid hop
  have hb0 := (Below.refl w.heap.size w).alloc (Nat.le_refl _) (.cells #[.int .i64 2, .int .i64 1, .int .i64 fb, .int .i64 fa, .int .i64 tb, .int .i64 ta, .int .i64 ((j : Int) + 1), .int .i64 r] 41)
  have HM1 := Lib.hid (h.below hb0)
  have HV1 := Lib.hid (Mv.of_below (S := S) hb0)
  have HO1 := Lib.hid (Bx.new w [.int .i64 2, .int .i64 1, .int .i64 fb, .int .i64 fa, .int .i64 tb, .int .i64 ta, .int .i64 ((j : Int) + 1), .int .i64 r] 41)
  have HNB := Lib.hid (show ¬ blk S w.heap.size from fun e => by have := (h.sp.ge e).2; omega)
  have HQ0 := Lib.hid (fun (W : World) (hW : RdP W g m) => opCode_any m g W hW ok ⟨2, 1, fb, fa, tb, ta, ((j : Int) + 1), r⟩ hop)
  rw [h0] at HQ0
  have hs1 : (w.alloc (.cells #[.int .i64 2, .int .i64 1, .int .i64 fb, .int .i64 fa, .int .i64 tb, .int .i64 ta, .int .i64 ((j : Int) + 1), .int .i64 r] 41)).heap.size = w.heap.size + 1 := by simp
  have HNF := Lib.hid hn
  have hon4 : (onL m (fb, fa)).length ≤ 4 := hok.on4 (fb, fa)
  obtain ⟨Y, hY⟩ : ∃ Y, Y = doTo m ⟨2, 1, fb, fa, tb, ta, ((j : Int) + 1), r⟩ := ⟨_, rfl⟩
  have hY2 : Y = setC (setL (addLp m ⟨2, 1, fb, fa, tb, ta, ((j : Int) + 1), r⟩ []) (fb, fa) (onL m (fb, fa) ++ [(m.ls.length : Int)])) ((j : Int) + 1) ⟨(carAt (setL (addLp m ⟨2, 1, fb, fa, tb, ta, ((j : Int) + 1), r⟩ []) (fb, fa) (onL m (fb, fa) ++ [(m.ls.length : Int)])) ((j : Int) + 1)).i, plc fb fa m.rk + 1⟩ := by
    have e1 := (do125 (m := m) (x := ⟨2, 1, fb, fa, tb, ta, ((j : Int) + 1), r⟩) (.inr (.inl rfl))).2
    rw [hY, e1, carAt_cs (m := m) (by rw [setL_cs]; rfl)]
    show setL (addLp (carTo m ⟨2, 1, fb, fa, tb, ta, ((j : Int) + 1), r⟩) ⟨2, 1, fb, fa, tb, ta, ((j : Int) + 1), r⟩ []) (fb, fa) (onL m (fb, fa) ++ [(m.ls.length : Int)]) = _
    rw [show carTo m ⟨2, 1, fb, fa, tb, ta, ((j : Int) + 1), r⟩ = setC m ((j : Int) + 1) ⟨(carAt m ((j : Int) + 1)).i, plc fb fa m.rk + 1⟩ from rfl]
    exact (fin2 m ⟨2, 1, fb, fa, tb, ta, ((j : Int) + 1), r⟩ _ _ _ _).symm
  rw [← hY]
  have HY := Lib.hid hY2
  clear hY hY2
  clear h hb0 ok hop h0
  go_enter Tryz.func41, Tryz.ntmps41
  obtain ⟨o0, o1, o2, o3, o4, o5, o6, o7⟩ := HO1.out.eight
  go_wp2_with fail
  generalize w.alloc (.cells #[.int .i64 2, .int .i64 1, .int .i64 fb, .int .i64 fa, .int .i64 tb, .int .i64 ta, .int .i64 ((j : Int) + 1), .int .i64 r] 41) = W1 at *
  refine (HQ0.out _ HM1.out.rd).mono ?_
  rintro e w2 ⟨rfl, hb2⟩
  have HM2 := Lib.hid (HM1.out.below hb2)
  have HV2 := Lib.hid (HV1.out.below_ hb2)
  have HO2 := Lib.hid (HO1.out.below hb2 HO1.out.2.2)
  have hsz2 : w.heap.size < w2.heap.size := by have := hb2.size; omega
  clear hb2 o0 o1 o2 o3 o4 o5 o6 o7 HM1 HV1 HO1 HQ0
  obtain ⟨o0, o1, o2, o3, o4, o5, o6, o7⟩ := HO2.out.eight
  have HLP := Lib.hid (loop_any HM2.out (by omega) ⟨2, 1, fb, fa, tb, ta, ((j : Int) + 1), r⟩ (.slice none 0 0) [] (⟨none, 0, 0, rfl, by omega, rfl, fun k hk => absurd hk (by omega)⟩ : RdI w2 w2.heap.size (.slice none 0 0) []) (fun b off n c e => by injection e with e; cases e) (by simp) hl3 HNF.out hon4)
  have HV5 := HV2
  have HO5 : Hid (OpAt w2 w.heap.size 0 ⟨2, 1, fb, fa, tb, ta, ((j : Int) + 1), r⟩) := HO2.out.1
  have HN5 := HNB
  have hw5 := hsz2
  have HFZ : Hid (∀ (X : World) {S6 : Nat → Spot}, Mv w2 S X S6 → ∀ i, X.frozen? ⟨w.heap.size, i, none⟩ = false) := fun X S6 hX i => (hX.only.frozen (p := ⟨w.heap.size, i, none⟩) hsz2 HNB.out).trans (HO2.out.2.1 i)
  go_wp2_with fail
  refine (HLP.out).mono ?_
  rintro e w6 ⟨rfl, S6, hm6, hv6⟩
  have HM6 := Lib.hid hm6
  have HV6 := Lib.hid (HV5.out.trans hv6)
  have hob6 : OpAt w6 w.heap.size 0 ⟨2, 1, fb, fa, tb, ta, ((j : Int) + 1), r⟩ := hv6.only.cells HN5.out HO5.out
  have hw6 : w.heap.size < w6.heap.size := Nat.lt_of_lt_of_le hw5 hv6.size
  have HNBX := Lib.hid (hv6.nblk HN5.out hw5)
  have HO6 : Hid (Bx w6 w.heap.size [.int .i64 2, .int .i64 1, .int .i64 fb, .int .i64 fa, .int .i64 tb, .int .i64 ta, .int .i64 ((j : Int) + 1), .int .i64 r]) := ⟨hob6, HFZ.out w6 hv6, hw6⟩
  clear o0 o1 o2 o3 o4 o5 o6 o7 hm6 hv6 hob6 HLP HV5 HO5 HN5 HFZ
  obtain ⟨o0, o1, o2, o3, o4, o5, o6, o7⟩ := HO6.out.eight
  have HCS : Hid ((setL (addLp m ⟨2, 1, fb, fa, tb, ta, ((j : Int) + 1), r⟩ []) (fb, fa) (onL m (fb, fa) ++ [(m.ls.length : Int)])).cs.length = 4) := by
    unfold Hid; rw [setL_cs]; exact d7
  have HRK : Hid ((setL (addLp m ⟨2, 1, fb, fa, tb, ta, ((j : Int) + 1), r⟩ []) (fb, fa) (onL m (fb, fa) ++ [(m.ls.length : Int)])).rk = m.rk) := by
    unfold Hid; rw [setL_rk]; rfl
  generalize setL (addLp m ⟨2, 1, fb, fa, tb, ta, ((j : Int) + 1), r⟩ []) (fb, fa) (onL m (fb, fa) ++ [(m.ls.length : Int)]) = MX at *
  go_wp2_with fail
  refine (makesLoop_rk 2 _).mono ?_
  rintro e wz ⟨rfl, rfl⟩
  obtain ⟨bc, cp, hvc, hblc, hBc, hbwc, hoc, hc0, hc1, hfc⟩ := HM6.out.cars ((j : Int) + 1) (by omega) (by rw [HCS.out]; omega)
  have hjn : (((j : Int) + 1) - 1).toNat = j := by omega
  rw [hjn] at hc0 hc1
  rw [HCS.out] at hvc
  have z4 : w6.cell? ⟨g, 4, none⟩ = some (.slice (some ⟨bc, 0, none⟩) 4 cp) := by rw [← hvc]; exact HM6.out.cells.seven.2.2.2.2.1
  have z1 : w6.cell? ⟨g, 1, none⟩ = some (.int .i64 m.rk) := by have h9 := HM6.out.cells.seven.2.1; rw [HRK.out] at h9; exact h9
  have hgz := HM6.out.size.1
  have hjl : (j : Int) < 4 := by omega
  have hj0 : (0 : Int) ≤ (j : Int) := by omega
  have HQP := Lib.hid (fun (X : World) => place_any fb fa m.rk (by omega) (by omega) (by omega) (by omega) X)
  have hPb : -100 ≤ plc fb fa m.rk ∧ plc fb fa m.rk ≤ 100 := by unfold plc; split <;> omega
  generalize hP : plc fb fa m.rk = P at *
  have HP := Lib.hid hP
  obtain ⟨p0, p1⟩ := hPb
  have hwj : IntKind.i64.wrap (j : Int) = (j : Int) := wrap_sm (by omega) (by omega)
  have hwj1 : IntKind.i64.wrap ((j : Int) + 1 - 1) = (j : Int) := by rw [show (j : Int) + 1 - 1 = (j : Int) by omega]; exact hwj
  have hnj : ¬ ((j : Int) < 0) := by omega
  have hnj4 : ¬ (4 ≤ (j : Int)) := by omega
  have hwP : IntKind.i64.wrap (P + 1) = P + 1 := wrap_sm (by omega) (by omega)
  have hwq : IntKind.i64.wrap ((IntKind.i64.wrap (2)).tdiv 2) = 1 := by decide
  have HSW := Lib.hid (fun (X : World) (hX : Below w6.heap.size w6 X) => show X.cell? ⟨g, 4, none⟩ = some (.slice (some ⟨bc, 0, none⟩) 4 cp) ∧ X.cell? ⟨g, 1, none⟩ = some (.int .i64 m.rk) ∧ X.cell? ⟨w.heap.size, 6, none⟩ = some (.int .i64 ((j : Int) + 1)) ∧ X.cell? ⟨w.heap.size, 2, none⟩ = some (.int .i64 fb) ∧ X.cell? ⟨w.heap.size, 3, none⟩ = some (.int .i64 fa) ∧ X.cell? ⟨w.heap.size, 1, none⟩ = some (.int .i64 (1)) from by
    obtain ⟨-, e1, e2, e3, -, -, e6, -⟩ := (HO6.out.below hX HO6.out.2.2).eight
    exact ⟨(hX.cell (p := ⟨g, 4, none⟩) hgz).trans z4, (hX.cell (p := ⟨g, 1, none⟩) hgz).trans z1, e6, e2, e3, e1⟩)
  have HC1 := Lib.hid (fun (X : World) (hX : Below w6.heap.size w6 X) => (hX.cell (p := ⟨bc, j * 2 + 1, none⟩) hbwc).trans hc1)
  have HFC := Lib.hid (fun (X : World) (hX : Below w6.heap.size w6 X) => (hX.frozen (p := ⟨bc, j * 2 + 1, none⟩) hbwc).trans (hfc _))
  have hcg : bc ≠ g := fun e => HM6.out.sp.dis (i := 3) (j := 0) (by omega) (by rw [hoc, e]) HM6.out.gbox
  have hcw : bc ≠ w.heap.size := fun e => HNBX.out (by rw [← e]; exact hblc)
  have hfg := far_cell hcg
  have hfw := far_cell hcw
  clear hP hvc hc0 hc1 hfc o1 o2 o3 o4 o5 o6 o7
  go_upto_region 28 with fail
  go_region_held3 (fun w' => w'.cell? ⟨g, 4, none⟩ = some (.slice (some ⟨bc, 0, none⟩) 4 cp) ∧ w'.cell? ⟨g, 1, none⟩ = some (.int .i64 m.rk) ∧ w'.cell? ⟨w.heap.size, 6, none⟩ = some (.int .i64 ((j : Int) + 1)) ∧ w'.cell? ⟨w.heap.size, 2, none⟩ = some (.int .i64 fb) ∧ w'.cell? ⟨w.heap.size, 3, none⟩ = some (.int .i64 fa) ∧ w'.cell? ⟨w.heap.size, 1, none⟩ = some (.int .i64 (1)))
    (first | with_reducible exact HSW.out _ (Below.refl _ _) | with_reducible exact HSW.out _ (Below.refl _ _).drew | with_reducible exact HSW.out _ hbP | (simp only [hfg, hfw]; with_reducible exact HSW.out _ hbP) | go_keep)
    (first
      | (go_at_call 84; refine (HQP.out _).mono ?_; rintro e wP ⟨rfl, hbP0⟩; have hbP : Below w6.heap.size w6 wP := (Below.refl w6.heap.size w6).drew.trans hbP0; have tc := HC1.out _ hbP; have tf := HFC.out _ hbP))
  all_goals
    obtain ⟨S5, hm5, hv5, -⟩ := (HM6.out.below hbP).setCp (c := ((j : Int) + 1)) (by omega) (by rw [HCS.out]; omega) hoc (P + 1) (HV6.out.below_ hbP)
    simp only [hjn] at hm5 hv5
    have HM5 := Lib.hid hm5
    have HV5 := Lib.hid hv5
    clear hm5 hv5 hbP hbP0 tc tf HSW HC1 HFC hfg hfw
    go_wp2
    go_ret
    exact ⟨rfl, S5, by rw [HY.out]; exact HM5.out, HV5.out⟩

set_option maxHeartbeats 4000000 in
set_option maxRecDepth 100000 in
theorem exec_1l {w : World} {B g : Nat} {m : Mc} {S : Nat → Spot} (h : MSt w B g m S) (hB : B ≤ w.heap.size) (ok : okM m = true) (fb fa tb ta r : Int) (j : Nat) (hj4 : j < 4) (hop : okOpW m.wd ⟨1, -1, fb, fa, tb, ta, ((j : Int) + 1), r⟩ = true) (h0 : doCode m ⟨1, -1, fb, fa, tb, ta, ((j : Int) + 1), r⟩ = 0) (f0 : 0 ≤ fa) (f1 : fa < m.wd) (hn : ndIn m (fb, fa)) (hl3 : m.ls.length < 300) :
    Calls Tryz.prog 41 #[.pointer (some ⟨g, 0, none⟩), (⟨1, -1, fb, fa, tb, ta, ((j : Int) + 1), r⟩ : Opr).v] w fun e w' => e = .returned (.int .i64 0) ∧ ∃ S', MSt w' B g (doTo m ⟨1, -1, fb, fa, tb, ta, ((j : Int) + 1), r⟩) S' ∧ Mv w S w' S' := by
  have hok := okM_iff.1 ok
  obtain ⟨d1, d2, d3, d4, d5, d6, d7⟩ := ok_wd ok
  have HOP := Lib.hid hop
  have hb0 := (Below.refl w.heap.size w).alloc (Nat.le_refl _) (.cells #[.int .i64 1, .int .i64 (-1), .int .i64 fb, .int .i64 fa, .int .i64 tb, .int .i64 ta, .int .i64 ((j : Int) + 1), .int .i64 r] 41)
  have HM1 := Lib.hid (h.below hb0)
  have HV1 := Lib.hid (Mv.of_below (S := S) hb0)
  have HO1 := Lib.hid (Bx.new w [.int .i64 1, .int .i64 (-1), .int .i64 fb, .int .i64 fa, .int .i64 tb, .int .i64 ta, .int .i64 ((j : Int) + 1), .int .i64 r] 41)
  have HNB := Lib.hid (show ¬ blk S w.heap.size from fun e => by have := (h.sp.ge e).2; omega)
  have HQ0 := Lib.hid (fun (W : World) (hW : RdP W g m) => opCode_any m g W hW ok ⟨1, -1, fb, fa, tb, ta, ((j : Int) + 1), r⟩ hop)
  rw [h0] at HQ0
  have hs1 : (w.alloc (.cells #[.int .i64 1, .int .i64 (-1), .int .i64 fb, .int .i64 fa, .int .i64 tb, .int .i64 ta, .int .i64 ((j : Int) + 1), .int .i64 r] 41)).heap.size = w.heap.size + 1 := by simp
  have HNF := Lib.hid hn
  have hon4 : (onL m (fb, fa)).length ≤ 4 := hok.on4 (fb, fa)
  obtain ⟨Y, hY⟩ : ∃ Y, Y = doTo m ⟨1, -1, fb, fa, tb, ta, ((j : Int) + 1), r⟩ := ⟨_, rfl⟩
  have hY2 : Y = setC (setL (addLp (setL m (fb, fa) []) ⟨1, -1, fb, fa, tb, ta, ((j : Int) + 1), r⟩ (onL m (fb, fa))) (fb, fa) (onL (setL m (fb, fa) []) (fb, fa) ++ [((setL m (fb, fa) []).ls.length : Int)])) ((j : Int) + 1) ⟨(carAt (setL (addLp (setL m (fb, fa) []) ⟨1, -1, fb, fa, tb, ta, ((j : Int) + 1), r⟩ (onL m (fb, fa))) (fb, fa) (onL (setL m (fb, fa) []) (fb, fa) ++ [((setL m (fb, fa) []).ls.length : Int)])) ((j : Int) + 1)).i, plc fb fa m.rk⟩ := by
    have e1 := (do125 (m := m) (x := ⟨1, -1, fb, fa, tb, ta, ((j : Int) + 1), r⟩) (.inl rfl)).2
    have e2 : onL (setL m (fb, fa) []) (fb, fa) = [] := onL_setL [] hn
    rw [hY, e1, e2, carAt_cs (m := m) (by rw [setL_cs]; show (setL m _ _).cs = _; rw [setL_cs]), setL_ls]
    show setL (addLp (carTo m ⟨1, -1, fb, fa, tb, ta, ((j : Int) + 1), r⟩) ⟨1, -1, fb, fa, tb, ta, ((j : Int) + 1), r⟩ (onL m (fb, fa))) (fb, fa) [(m.ls.length : Int)] = _
    rw [show carTo m ⟨1, -1, fb, fa, tb, ta, ((j : Int) + 1), r⟩ = setC m ((j : Int) + 1) ⟨(carAt m ((j : Int) + 1)).i, plc fb fa m.rk⟩ from rfl]
    exact (fin1 m ⟨1, -1, fb, fa, tb, ta, ((j : Int) + 1), r⟩ _ _ _ _).symm
  rw [← hY]
  have HY := Lib.hid hY2
  clear hY hY2
  clear h hb0 ok hop h0
  go_enter Tryz.func41, Tryz.ntmps41
  obtain ⟨o0, o1, o2, o3, o4, o5, o6, o7⟩ := HO1.out.eight
  go_wp2_with fail
  generalize w.alloc (.cells #[.int .i64 1, .int .i64 (-1), .int .i64 fb, .int .i64 fa, .int .i64 tb, .int .i64 ta, .int .i64 ((j : Int) + 1), .int .i64 r] 41) = W1 at *
  refine (HQ0.out _ HM1.out.rd).mono ?_
  rintro e w2 ⟨rfl, hb2⟩
  have HM2 := Lib.hid (HM1.out.below hb2)
  have HV2 := Lib.hid (HV1.out.below_ hb2)
  have HO2 := Lib.hid (HO1.out.below hb2 HO1.out.2.2)
  have hsz2 : w.heap.size < w2.heap.size := by have := hb2.size; omega
  clear hb2 o0 o1 o2 o3 o4 o5 o6 o7 HM1 HV1 HO1 HQ0
  obtain ⟨o0, o1, o2, o3, o4, o5, o6, o7⟩ := HO2.out.eight
  obtain ⟨bF, cF, LF, hvF, hltF, hbF, hbFw, hBF, hcellF, hfrF, -, hset⟩ := HM2.out.nd3 HNF.out
  obtain ⟨hrF, ⟨Af, cf, hvf, -⟩, -⟩ := HM2.out.onR HNF.out
  obtain ⟨haf1, -, -⟩ := nd_apart HM2.out hvF (fb, fa)
  rw [hvf] at haf1
  have hcellF' : w2.cell? ⟨bF, fa.toNat, none⟩ = some (.slice Af (onL m (fb, fa)).length cf) := by rw [← hvf]; exact hcellF
  have HRF := Lib.hid hrF
  have HAF := Lib.hid haf1
  have HVF := Lib.hid hvf
  have HSET := Lib.hid hset
  have HON := Lib.hid (fun (X : World) (hX : Below w2.heap.size w2 X) => on_ms (HM2.out.below hX) (fb, fa) HNF.out bF cF LF hvF hltF)
  have HFR := Lib.hid (fun (X : World) (hX : Below w2.heap.size w2 X) => (hX.frozen (p := ⟨bF, fa.toNat, none⟩) hbFw).trans (hfrF _))
  have HCF := Lib.hid (fun (X : World) (hX : Below w2.heap.size w2 X) => (hX.cell (p := ⟨bF, fa.toNat, none⟩) hbFw).trans hcellF')
  clear hvF hltF hcellF hfrF hset hrF hvf haf1 hcellF'
  go_wp2_with fail
  refine (HON.out _ (Below.refl _ _)).mono ?_
  rintro e w3 ⟨rfl, hb3⟩
  have yF := HCF.out _ hb3
  clear o0 o1 o2 o3 o4 o5 o6 o7
  obtain ⟨o0, o1, o2, o3, o4, o5, o6, o7⟩ := (HO2.out.below hb3 HO2.out.2.2).eight
  go_wp2_with fail
  refine (HON.out _ hb3).mono ?_
  rintro e w4 ⟨rfl, hb4'⟩
  have hb4 : Below w2.heap.size w2 w4 := hb3.trans (hb4'.mono hb3.size)
  have HM4 := Lib.hid (HM2.out.below hb4)
  have yF4 := HCF.out _ hb4
  have zF4 := HFR.out _ hb4
  obtain ⟨S5, hm5, hmv5, hk5, hs5⟩ := HSET.out w4 [] (.slice none 0 0) (HM4.out.sp.putNone (iN (fb, fa)) 2 1)
  have hv5 := hmv5 w S ((HV2.out.below_ hb4).put (iN (fb, fa)) (spI (.slice none 0 0) []) (fun q hq => by cases hq))
  have hq5 := hmv5 w2 S ((Mv.of_below (S := S) hb4).put (iN (fb, fa)) (spI (.slice none 0 0) []) (fun q hq => by cases hq))
  have hot5 : OnlyT (fun q => q = bF) w2 (w4.setCell ⟨bF, fa.toNat, none⟩ (.slice none 0 0)) := (OnlyT.of_below (T := fun q => q = bF) hb4).setCell (p := ⟨bF, fa.toNat, none⟩) (.inl rfl) _
  have hrd5 : RdI (w4.setCell ⟨bF, fa.toNat, none⟩ (.slice none 0 0)) (w4.setCell ⟨bF, fa.toNat, none⟩ (.slice none 0 0)).heap.size (.slice Af (onL m (fb, fa)).length cf) (onL m (fb, fa)) := by
    have h8 := HRF.out
    rw [HVF.out] at h8
    refine RdI.more (h8.onlyT hot5 (fun b off n c e h7 => ?_)) hot5.size
    exact HAF.out (by rw [e, ← h7]; rfl)
  have hnb5 : ∀ b off n c, Value.slice Af (onL m (fb, fa)).length cf = .slice (some ⟨b, off, none⟩) n c → ¬ blk S5 b := fun b off n c e => by
    have h9 : (S (iN (fb, fa))).v.ownBlock = some b := by rw [HVF.out, e]; rfl
    rintro ⟨j', hj'⟩
    by_cases hjf : j' = iN (fb, fa)
    · rw [hjf, hs5] at hj'; cases hj'
    · rw [hk5 j' hjf] at hj'
      exact HM4.out.sp.dis (i := iN (fb, fa)) (j := j') (Ne.symm hjf) h9 hj'
  have hbw : bF ≠ w.heap.size := fun e => HNB.out (by rw [← e]; exact hbF)
  have hob5 := hot5.cells (g := w.heap.size) (o := 0) (fun e => hbw e.symm) HO2.out.1
  have hw5 : w.heap.size < (w4.setCell ⟨bF, fa.toNat, none⟩ (.slice none 0 0)).heap.size := Nat.lt_of_lt_of_le hsz2 hot5.size
  have hnw5 := hq5.nblk HNB.out hsz2
  have hn5 := ndIn_setL (t := (fb, fa)) (l := []) HNF.out
  have hol5 : (onL (setL m (fb, fa) []) (fb, fa)).length ≤ 4 := by rw [onL_setL [] HNF.out]; simp
  have hll5 : (setL m (fb, fa) []).ls.length < 300 := by rw [setL_ls]; exact hl3
  have HLP := Lib.hid (loop_any hm5 (by omega) ⟨1, -1, fb, fa, tb, ta, ((j : Int) + 1), r⟩ _ _ hrd5 hnb5 hon4 hll5 hn5 hol5)
  have HV5 := Lib.hid hv5
  have HO5 : Hid (OpAt (w4.setCell ⟨bF, fa.toNat, none⟩ (.slice none 0 0)) w.heap.size 0 ⟨1, -1, fb, fa, tb, ta, ((j : Int) + 1), r⟩) := hob5
  have HN5 := Lib.hid hnw5
  have HFZ : Hid (∀ (X : World) {S6 : Nat → Spot}, Mv (w4.setCell ⟨bF, fa.toNat, none⟩ (.slice none 0 0)) S5 X S6 → ∀ i, X.frozen? ⟨w.heap.size, i, none⟩ = false) := fun X S6 hX i => (hX.only.frozen (p := ⟨w.heap.size, i, none⟩) hw5 hnw5).trans ((hot5.frozen (p := ⟨w.heap.size, i, none⟩) hsz2 (fun e => hbw e.symm)).trans (HO2.out.2.1 i))
  clear o0 o1 o2 o3 o4 o5 o6 o7
  have hfwF := far_cell hbw
  obtain ⟨o0, o1, o2, o3, o4, o5, o6, o7⟩ := (HO2.out.below hb4 HO2.out.2.2).eight
  clear hm5 hmv5 hk5 hs5 hv5 hq5 hot5 hrd5 hnb5 hob5 hnw5 hn5 hol5 hll5 hb3 hb4' hb4 HSET HON HFR HCF HRF HAF HVF HM4 HM2 HV2 HO2
  go_wp2_with fail
  refine (HLP.out).mono ?_
  rintro e w6 ⟨rfl, S6, hm6, hv6⟩
  have HM6 := Lib.hid hm6
  have HV6 := Lib.hid (HV5.out.trans hv6)
  have hob6 : OpAt w6 w.heap.size 0 ⟨1, -1, fb, fa, tb, ta, ((j : Int) + 1), r⟩ := hv6.only.cells HN5.out HO5.out
  have hw6 : w.heap.size < w6.heap.size := Nat.lt_of_lt_of_le hw5 hv6.size
  have HNBX := Lib.hid (hv6.nblk HN5.out hw5)
  have HO6 : Hid (Bx w6 w.heap.size [.int .i64 1, .int .i64 (-1), .int .i64 fb, .int .i64 fa, .int .i64 tb, .int .i64 ta, .int .i64 ((j : Int) + 1), .int .i64 r]) := ⟨hob6, HFZ.out w6 hv6, hw6⟩
  clear o0 o1 o2 o3 o4 o5 o6 o7 hm6 hv6 hob6 HLP HV5 HO5 HN5 HFZ
  obtain ⟨o0, o1, o2, o3, o4, o5, o6, o7⟩ := HO6.out.eight
  have HCS : Hid ((setL (addLp (setL m (fb, fa) []) ⟨1, -1, fb, fa, tb, ta, ((j : Int) + 1), r⟩ (onL m (fb, fa))) (fb, fa) (onL (setL m (fb, fa) []) (fb, fa) ++ [((setL m (fb, fa) []).ls.length : Int)])).cs.length = 4) := by
    unfold Hid; rw [setL_cs]; show (setL m _ _).cs.length = 4; rw [setL_cs]; exact d7
  have HRK : Hid ((setL (addLp (setL m (fb, fa) []) ⟨1, -1, fb, fa, tb, ta, ((j : Int) + 1), r⟩ (onL m (fb, fa))) (fb, fa) (onL (setL m (fb, fa) []) (fb, fa) ++ [((setL m (fb, fa) []).ls.length : Int)])).rk = m.rk) := by
    unfold Hid; rw [setL_rk]; show (setL m _ _).rk = _; rw [setL_rk]
  generalize setL (addLp (setL m (fb, fa) []) ⟨1, -1, fb, fa, tb, ta, ((j : Int) + 1), r⟩ (onL m (fb, fa))) (fb, fa) (onL (setL m (fb, fa) []) (fb, fa) ++ [((setL m (fb, fa) []).ls.length : Int)]) = MX at *
  clear yF yF4 zF4 hfwF
  go_wp2_with fail
  refine (makesLoop_rk 1 _).mono ?_
  rintro e wz ⟨rfl, rfl⟩
  obtain ⟨bc, cp, hvc, hblc, hBc, hbwc, hoc, hc0, hc1, hfc⟩ := HM6.out.cars ((j : Int) + 1) (by omega) (by rw [HCS.out]; omega)
  have hjn : (((j : Int) + 1) - 1).toNat = j := by omega
  rw [hjn] at hc0 hc1
  rw [HCS.out] at hvc
  have z4 : w6.cell? ⟨g, 4, none⟩ = some (.slice (some ⟨bc, 0, none⟩) 4 cp) := by rw [← hvc]; exact HM6.out.cells.seven.2.2.2.2.1
  have z1 : w6.cell? ⟨g, 1, none⟩ = some (.int .i64 m.rk) := by have h9 := HM6.out.cells.seven.2.1; rw [HRK.out] at h9; exact h9
  have hgz := HM6.out.size.1
  have hjl : (j : Int) < 4 := by omega
  have hj0 : (0 : Int) ≤ (j : Int) := by omega
  have HQP := Lib.hid (fun (X : World) => place_any fb fa m.rk (by omega) (by omega) (by omega) (by omega) X)
  have hPb : -100 ≤ plc fb fa m.rk ∧ plc fb fa m.rk ≤ 100 := by unfold plc; split <;> omega
  generalize hP : plc fb fa m.rk = P at *
  have HP := Lib.hid hP
  obtain ⟨p0, p1⟩ := hPb
  have hwj : IntKind.i64.wrap (j : Int) = (j : Int) := wrap_sm (by omega) (by omega)
  have hwj1 : IntKind.i64.wrap ((j : Int) + 1 - 1) = (j : Int) := by rw [show (j : Int) + 1 - 1 = (j : Int) by omega]; exact hwj
  have hnj : ¬ ((j : Int) < 0) := by omega
  have hnj4 : ¬ (4 ≤ (j : Int)) := by omega
  have hwP : IntKind.i64.wrap (P) = P := wrap_sm (by omega) (by omega)
  have hwq : IntKind.i64.wrap ((IntKind.i64.wrap (0)).tdiv 2) = 0 := by decide
  have HSW := Lib.hid (fun (X : World) (hX : Below w6.heap.size w6 X) => show X.cell? ⟨g, 4, none⟩ = some (.slice (some ⟨bc, 0, none⟩) 4 cp) ∧ X.cell? ⟨g, 1, none⟩ = some (.int .i64 m.rk) ∧ X.cell? ⟨w.heap.size, 6, none⟩ = some (.int .i64 ((j : Int) + 1)) ∧ X.cell? ⟨w.heap.size, 2, none⟩ = some (.int .i64 fb) ∧ X.cell? ⟨w.heap.size, 3, none⟩ = some (.int .i64 fa) ∧ X.cell? ⟨w.heap.size, 1, none⟩ = some (.int .i64 (-1)) from by
    obtain ⟨-, e1, e2, e3, -, -, e6, -⟩ := (HO6.out.below hX HO6.out.2.2).eight
    exact ⟨(hX.cell (p := ⟨g, 4, none⟩) hgz).trans z4, (hX.cell (p := ⟨g, 1, none⟩) hgz).trans z1, e6, e2, e3, e1⟩)
  have HC1 := Lib.hid (fun (X : World) (hX : Below w6.heap.size w6 X) => (hX.cell (p := ⟨bc, j * 2 + 1, none⟩) hbwc).trans hc1)
  have HFC := Lib.hid (fun (X : World) (hX : Below w6.heap.size w6 X) => (hX.frozen (p := ⟨bc, j * 2 + 1, none⟩) hbwc).trans (hfc _))
  have hcg : bc ≠ g := fun e => HM6.out.sp.dis (i := 3) (j := 0) (by omega) (by rw [hoc, e]) HM6.out.gbox
  have hcw : bc ≠ w.heap.size := fun e => HNBX.out (by rw [← e]; exact hblc)
  have hfg := far_cell hcg
  have hfw := far_cell hcw
  clear hP hvc hc0 hc1 hfc o1 o2 o3 o4 o5 o6 o7
  go_upto_region 28 with fail
  go_region_held3 (fun w' => w'.cell? ⟨g, 4, none⟩ = some (.slice (some ⟨bc, 0, none⟩) 4 cp) ∧ w'.cell? ⟨g, 1, none⟩ = some (.int .i64 m.rk) ∧ w'.cell? ⟨w.heap.size, 6, none⟩ = some (.int .i64 ((j : Int) + 1)) ∧ w'.cell? ⟨w.heap.size, 2, none⟩ = some (.int .i64 fb) ∧ w'.cell? ⟨w.heap.size, 3, none⟩ = some (.int .i64 fa) ∧ w'.cell? ⟨w.heap.size, 1, none⟩ = some (.int .i64 (-1)))
    (first | with_reducible exact HSW.out _ (Below.refl _ _) | with_reducible exact HSW.out _ (Below.refl _ _).drew | with_reducible exact HSW.out _ hbP | (simp only [hfg, hfw]; with_reducible exact HSW.out _ hbP) | go_keep)
    (first
      | (go_at_call 84; refine (HQP.out _).mono ?_; rintro e wP ⟨rfl, hbP0⟩; have hbP : Below w6.heap.size w6 wP := (Below.refl w6.heap.size w6).drew.trans hbP0; have tc := HC1.out _ hbP; have tf := HFC.out _ hbP))
  all_goals
    obtain ⟨S5, hm5, hv5, -⟩ := (HM6.out.below hbP).setCp (c := ((j : Int) + 1)) (by omega) (by rw [HCS.out]; omega) hoc (P) (HV6.out.below_ hbP)
    simp only [hjn] at hm5 hv5
    have HM5 := Lib.hid hm5
    have HV5 := Lib.hid hv5
    clear hm5 hv5 hbP hbP0 tc tf HSW HC1 HFC hfg hfw
    go_wp2
    go_ret
    exact ⟨rfl, S5, by rw [HY.out]; exact HM5.out, HV5.out⟩

set_option maxHeartbeats 4000000 in
set_option maxRecDepth 100000 in
theorem exec_2l {w : World} {B g : Nat} {m : Mc} {S : Nat → Spot} (h : MSt w B g m S) (hB : B ≤ w.heap.size) (ok : okM m = true) (fb fa tb ta r : Int) (j : Nat) (hj4 : j < 4) (hop : okOpW m.wd ⟨2, -1, fb, fa, tb, ta, ((j : Int) + 1), r⟩ = true) (h0 : doCode m ⟨2, -1, fb, fa, tb, ta, ((j : Int) + 1), r⟩ = 0) (f0 : 0 ≤ fa) (f1 : fa < m.wd) (hn : ndIn m (fb, fa)) (hl3 : m.ls.length < 300) :
    Calls Tryz.prog 41 #[.pointer (some ⟨g, 0, none⟩), (⟨2, -1, fb, fa, tb, ta, ((j : Int) + 1), r⟩ : Opr).v] w fun e w' => e = .returned (.int .i64 0) ∧ ∃ S', MSt w' B g (doTo m ⟨2, -1, fb, fa, tb, ta, ((j : Int) + 1), r⟩) S' ∧ Mv w S w' S' := by
  have hok := okM_iff.1 ok
  obtain ⟨d1, d2, d3, d4, d5, d6, d7⟩ := ok_wd ok
  have HOP := Lib.hid hop
  have hb0 := (Below.refl w.heap.size w).alloc (Nat.le_refl _) (.cells #[.int .i64 2, .int .i64 (-1), .int .i64 fb, .int .i64 fa, .int .i64 tb, .int .i64 ta, .int .i64 ((j : Int) + 1), .int .i64 r] 41)
  have HM1 := Lib.hid (h.below hb0)
  have HV1 := Lib.hid (Mv.of_below (S := S) hb0)
  have HO1 := Lib.hid (Bx.new w [.int .i64 2, .int .i64 (-1), .int .i64 fb, .int .i64 fa, .int .i64 tb, .int .i64 ta, .int .i64 ((j : Int) + 1), .int .i64 r] 41)
  have HNB := Lib.hid (show ¬ blk S w.heap.size from fun e => by have := (h.sp.ge e).2; omega)
  have HQ0 := Lib.hid (fun (W : World) (hW : RdP W g m) => opCode_any m g W hW ok ⟨2, -1, fb, fa, tb, ta, ((j : Int) + 1), r⟩ hop)
  rw [h0] at HQ0
  have hs1 : (w.alloc (.cells #[.int .i64 2, .int .i64 (-1), .int .i64 fb, .int .i64 fa, .int .i64 tb, .int .i64 ta, .int .i64 ((j : Int) + 1), .int .i64 r] 41)).heap.size = w.heap.size + 1 := by simp
  have HNF := Lib.hid hn
  have hon4 : (onL m (fb, fa)).length ≤ 4 := hok.on4 (fb, fa)
  obtain ⟨Y, hY⟩ : ∃ Y, Y = doTo m ⟨2, -1, fb, fa, tb, ta, ((j : Int) + 1), r⟩ := ⟨_, rfl⟩
  have hY2 : Y = setC (setL (addLp m ⟨2, -1, fb, fa, tb, ta, ((j : Int) + 1), r⟩ []) (fb, fa) (onL m (fb, fa) ++ [(m.ls.length : Int)])) ((j : Int) + 1) ⟨(carAt (setL (addLp m ⟨2, -1, fb, fa, tb, ta, ((j : Int) + 1), r⟩ []) (fb, fa) (onL m (fb, fa) ++ [(m.ls.length : Int)])) ((j : Int) + 1)).i, plc fb fa m.rk⟩ := by
    have e1 := (do125 (m := m) (x := ⟨2, -1, fb, fa, tb, ta, ((j : Int) + 1), r⟩) (.inr (.inl rfl))).2
    rw [hY, e1, carAt_cs (m := m) (by rw [setL_cs]; rfl)]
    show setL (addLp (carTo m ⟨2, -1, fb, fa, tb, ta, ((j : Int) + 1), r⟩) ⟨2, -1, fb, fa, tb, ta, ((j : Int) + 1), r⟩ []) (fb, fa) (onL m (fb, fa) ++ [(m.ls.length : Int)]) = _
    rw [show carTo m ⟨2, -1, fb, fa, tb, ta, ((j : Int) + 1), r⟩ = setC m ((j : Int) + 1) ⟨(carAt m ((j : Int) + 1)).i, plc fb fa m.rk⟩ from rfl]
    exact (fin2 m ⟨2, -1, fb, fa, tb, ta, ((j : Int) + 1), r⟩ _ _ _ _).symm
  rw [← hY]
  have HY := Lib.hid hY2
  clear hY hY2
  clear h hb0 ok hop h0
  go_enter Tryz.func41, Tryz.ntmps41
  obtain ⟨o0, o1, o2, o3, o4, o5, o6, o7⟩ := HO1.out.eight
  go_wp2_with fail
  generalize w.alloc (.cells #[.int .i64 2, .int .i64 (-1), .int .i64 fb, .int .i64 fa, .int .i64 tb, .int .i64 ta, .int .i64 ((j : Int) + 1), .int .i64 r] 41) = W1 at *
  refine (HQ0.out _ HM1.out.rd).mono ?_
  rintro e w2 ⟨rfl, hb2⟩
  have HM2 := Lib.hid (HM1.out.below hb2)
  have HV2 := Lib.hid (HV1.out.below_ hb2)
  have HO2 := Lib.hid (HO1.out.below hb2 HO1.out.2.2)
  have hsz2 : w.heap.size < w2.heap.size := by have := hb2.size; omega
  clear hb2 o0 o1 o2 o3 o4 o5 o6 o7 HM1 HV1 HO1 HQ0
  obtain ⟨o0, o1, o2, o3, o4, o5, o6, o7⟩ := HO2.out.eight
  have HLP := Lib.hid (loop_any HM2.out (by omega) ⟨2, -1, fb, fa, tb, ta, ((j : Int) + 1), r⟩ (.slice none 0 0) [] (⟨none, 0, 0, rfl, by omega, rfl, fun k hk => absurd hk (by omega)⟩ : RdI w2 w2.heap.size (.slice none 0 0) []) (fun b off n c e => by injection e with e; cases e) (by simp) hl3 HNF.out hon4)
  have HV5 := HV2
  have HO5 : Hid (OpAt w2 w.heap.size 0 ⟨2, -1, fb, fa, tb, ta, ((j : Int) + 1), r⟩) := HO2.out.1
  have HN5 := HNB
  have hw5 := hsz2
  have HFZ : Hid (∀ (X : World) {S6 : Nat → Spot}, Mv w2 S X S6 → ∀ i, X.frozen? ⟨w.heap.size, i, none⟩ = false) := fun X S6 hX i => (hX.only.frozen (p := ⟨w.heap.size, i, none⟩) hsz2 HNB.out).trans (HO2.out.2.1 i)
  go_wp2_with fail
  refine (HLP.out).mono ?_
  rintro e w6 ⟨rfl, S6, hm6, hv6⟩
  have HM6 := Lib.hid hm6
  have HV6 := Lib.hid (HV5.out.trans hv6)
  have hob6 : OpAt w6 w.heap.size 0 ⟨2, -1, fb, fa, tb, ta, ((j : Int) + 1), r⟩ := hv6.only.cells HN5.out HO5.out
  have hw6 : w.heap.size < w6.heap.size := Nat.lt_of_lt_of_le hw5 hv6.size
  have HNBX := Lib.hid (hv6.nblk HN5.out hw5)
  have HO6 : Hid (Bx w6 w.heap.size [.int .i64 2, .int .i64 (-1), .int .i64 fb, .int .i64 fa, .int .i64 tb, .int .i64 ta, .int .i64 ((j : Int) + 1), .int .i64 r]) := ⟨hob6, HFZ.out w6 hv6, hw6⟩
  clear o0 o1 o2 o3 o4 o5 o6 o7 hm6 hv6 hob6 HLP HV5 HO5 HN5 HFZ
  obtain ⟨o0, o1, o2, o3, o4, o5, o6, o7⟩ := HO6.out.eight
  have HCS : Hid ((setL (addLp m ⟨2, -1, fb, fa, tb, ta, ((j : Int) + 1), r⟩ []) (fb, fa) (onL m (fb, fa) ++ [(m.ls.length : Int)])).cs.length = 4) := by
    unfold Hid; rw [setL_cs]; exact d7
  have HRK : Hid ((setL (addLp m ⟨2, -1, fb, fa, tb, ta, ((j : Int) + 1), r⟩ []) (fb, fa) (onL m (fb, fa) ++ [(m.ls.length : Int)])).rk = m.rk) := by
    unfold Hid; rw [setL_rk]; rfl
  generalize setL (addLp m ⟨2, -1, fb, fa, tb, ta, ((j : Int) + 1), r⟩ []) (fb, fa) (onL m (fb, fa) ++ [(m.ls.length : Int)]) = MX at *
  go_wp2_with fail
  refine (makesLoop_rk 2 _).mono ?_
  rintro e wz ⟨rfl, rfl⟩
  obtain ⟨bc, cp, hvc, hblc, hBc, hbwc, hoc, hc0, hc1, hfc⟩ := HM6.out.cars ((j : Int) + 1) (by omega) (by rw [HCS.out]; omega)
  have hjn : (((j : Int) + 1) - 1).toNat = j := by omega
  rw [hjn] at hc0 hc1
  rw [HCS.out] at hvc
  have z4 : w6.cell? ⟨g, 4, none⟩ = some (.slice (some ⟨bc, 0, none⟩) 4 cp) := by rw [← hvc]; exact HM6.out.cells.seven.2.2.2.2.1
  have z1 : w6.cell? ⟨g, 1, none⟩ = some (.int .i64 m.rk) := by have h9 := HM6.out.cells.seven.2.1; rw [HRK.out] at h9; exact h9
  have hgz := HM6.out.size.1
  have hjl : (j : Int) < 4 := by omega
  have hj0 : (0 : Int) ≤ (j : Int) := by omega
  have HQP := Lib.hid (fun (X : World) => place_any fb fa m.rk (by omega) (by omega) (by omega) (by omega) X)
  have hPb : -100 ≤ plc fb fa m.rk ∧ plc fb fa m.rk ≤ 100 := by unfold plc; split <;> omega
  generalize hP : plc fb fa m.rk = P at *
  have HP := Lib.hid hP
  obtain ⟨p0, p1⟩ := hPb
  have hwj : IntKind.i64.wrap (j : Int) = (j : Int) := wrap_sm (by omega) (by omega)
  have hwj1 : IntKind.i64.wrap ((j : Int) + 1 - 1) = (j : Int) := by rw [show (j : Int) + 1 - 1 = (j : Int) by omega]; exact hwj
  have hnj : ¬ ((j : Int) < 0) := by omega
  have hnj4 : ¬ (4 ≤ (j : Int)) := by omega
  have hwP : IntKind.i64.wrap (P) = P := wrap_sm (by omega) (by omega)
  have hwq : IntKind.i64.wrap ((IntKind.i64.wrap (0)).tdiv 2) = 0 := by decide
  have HSW := Lib.hid (fun (X : World) (hX : Below w6.heap.size w6 X) => show X.cell? ⟨g, 4, none⟩ = some (.slice (some ⟨bc, 0, none⟩) 4 cp) ∧ X.cell? ⟨g, 1, none⟩ = some (.int .i64 m.rk) ∧ X.cell? ⟨w.heap.size, 6, none⟩ = some (.int .i64 ((j : Int) + 1)) ∧ X.cell? ⟨w.heap.size, 2, none⟩ = some (.int .i64 fb) ∧ X.cell? ⟨w.heap.size, 3, none⟩ = some (.int .i64 fa) ∧ X.cell? ⟨w.heap.size, 1, none⟩ = some (.int .i64 (-1)) from by
    obtain ⟨-, e1, e2, e3, -, -, e6, -⟩ := (HO6.out.below hX HO6.out.2.2).eight
    exact ⟨(hX.cell (p := ⟨g, 4, none⟩) hgz).trans z4, (hX.cell (p := ⟨g, 1, none⟩) hgz).trans z1, e6, e2, e3, e1⟩)
  have HC1 := Lib.hid (fun (X : World) (hX : Below w6.heap.size w6 X) => (hX.cell (p := ⟨bc, j * 2 + 1, none⟩) hbwc).trans hc1)
  have HFC := Lib.hid (fun (X : World) (hX : Below w6.heap.size w6 X) => (hX.frozen (p := ⟨bc, j * 2 + 1, none⟩) hbwc).trans (hfc _))
  have hcg : bc ≠ g := fun e => HM6.out.sp.dis (i := 3) (j := 0) (by omega) (by rw [hoc, e]) HM6.out.gbox
  have hcw : bc ≠ w.heap.size := fun e => HNBX.out (by rw [← e]; exact hblc)
  have hfg := far_cell hcg
  have hfw := far_cell hcw
  clear hP hvc hc0 hc1 hfc o1 o2 o3 o4 o5 o6 o7
  go_upto_region 28 with fail
  go_region_held3 (fun w' => w'.cell? ⟨g, 4, none⟩ = some (.slice (some ⟨bc, 0, none⟩) 4 cp) ∧ w'.cell? ⟨g, 1, none⟩ = some (.int .i64 m.rk) ∧ w'.cell? ⟨w.heap.size, 6, none⟩ = some (.int .i64 ((j : Int) + 1)) ∧ w'.cell? ⟨w.heap.size, 2, none⟩ = some (.int .i64 fb) ∧ w'.cell? ⟨w.heap.size, 3, none⟩ = some (.int .i64 fa) ∧ w'.cell? ⟨w.heap.size, 1, none⟩ = some (.int .i64 (-1)))
    (first | with_reducible exact HSW.out _ (Below.refl _ _) | with_reducible exact HSW.out _ (Below.refl _ _).drew | with_reducible exact HSW.out _ hbP | (simp only [hfg, hfw]; with_reducible exact HSW.out _ hbP) | go_keep)
    (first
      | (go_at_call 84; refine (HQP.out _).mono ?_; rintro e wP ⟨rfl, hbP0⟩; have hbP : Below w6.heap.size w6 wP := (Below.refl w6.heap.size w6).drew.trans hbP0; have tc := HC1.out _ hbP; have tf := HFC.out _ hbP))
  all_goals
    obtain ⟨S5, hm5, hv5, -⟩ := (HM6.out.below hbP).setCp (c := ((j : Int) + 1)) (by omega) (by rw [HCS.out]; omega) hoc (P) (HV6.out.below_ hbP)
    simp only [hjn] at hm5 hv5
    have HM5 := Lib.hid hm5
    have HV5 := Lib.hid hv5
    clear hm5 hv5 hbP hbP0 tc tf HSW HC1 HFC hfg hfw
    go_wp2
    go_ret
    exact ⟨rfl, S5, by rw [HY.out]; exact HM5.out, HV5.out⟩


end Go.Proofs.YthhpjgdeehcgjaaGreat
