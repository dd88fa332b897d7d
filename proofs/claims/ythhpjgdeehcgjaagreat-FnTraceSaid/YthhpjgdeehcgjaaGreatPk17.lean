/-
  Texts joined: RkM, RkN.
-/
import Derived.Test.YthhpjgdeehcgjaaGreatPk15
import Derived.Test.YthhpjgdeehcgjaaGreatPk16
/-
  The program's opEvents.
-/
namespace Go.Proofs.YthhpjgdeehcgjaaGreat
set_option linter.unusedVariables false
set_option linter.unusedSimpArgs false
open Go.RowKit

set_option maxHeartbeats 4000000 in
set_option maxRecDepth 100000 in
theorem opEvents_1 (m : Mc) (g : Nat) (w : World) (h : RdP w g m) (ok : okM m = true) (d fb fa tb ta c r : Int) (hf : ndOk m (fb, fa)) :
    Calls Tryz.prog 26 #[.pointer (some ⟨g, 0, none⟩), (⟨1, d, fb, fa, tb, ta, c, r⟩ : Opr).v] w (GivesOw w 47 6 (evD m ⟨1, d, fb, fa, tb, ta, c, r⟩).length (vE (evD m ⟨1, d, fb, fa, tb, ta, c, r⟩))) := by
  have HP := Lib.hid h
  have HOK := Lib.hid ok
  have HF := Lib.hid hf
  have hbl := befS_le ok (fb, fa)
  have hsl := szN_le ok (fb, fa)
  have HE := Lib.hid (evD1 (m := m) (x := ⟨1, d, fb, fa, tb, ta, c, r⟩) rfl)
  have he : evD m ⟨1, d, fb, fa, tb, ta, c, r⟩ = [⟨2, befS m (fb, fa), szN m (fb, fa), fb, c, d⟩] := HE.out
  rw [he]
  have B0 := Bx.new w [.int .i64 1, .int .i64 d, .int .i64 fb, .int .i64 fa, .int .i64 tb, .int .i64 ta, .int .i64 c, .int .i64 r] 41
  have HBW := Lib.hid (((Below.refl w.heap.size w).alloc (Nat.le_refl _) (.cells #[.int .i64 1, .int .i64 d, .int .i64 fb, .int .i64 fa, .int .i64 tb, .int .i64 ta, .int .i64 c, .int .i64 r] 41)).alloc (by simp) (.cells #[.int .i64 0, .int .i64 0, .int .i64 0, .int .i64 fb, .int .i64 c, .int .i64 d] 47))
  have B0' := Lib.hid (B0.alloc (.cells #[.int .i64 0, .int .i64 0, .int .i64 0, .int .i64 fb, .int .i64 c, .int .i64 d] 47))
  have E0 := Bx.new (w.alloc (.cells #[.int .i64 1, .int .i64 d, .int .i64 fb, .int .i64 fa, .int .i64 tb, .int .i64 ta, .int .i64 c, .int .i64 r] 41)) [.int .i64 0, .int .i64 0, .int .i64 0, .int .i64 fb, .int .i64 c, .int .i64 d] 47
  rw [World.size_alloc] at E0
  have HE0 := Lib.hid E0
  clear h ok hf he E0 B0
  go_enter Tryz.func26, Tryz.ntmps26
  go_wp2_with fail
  refine (makesLoop_rk 1 _).mono ?_
  rintro e w1 ⟨rfl, rfl⟩
  go_wp2_with fail
  refine (before_any m g (fb, fa) _ (HP.out.below HBW.out) HOK.out HF.out).mono ?_
  rintro e w2 ⟨rfl, hb2⟩
  have HB2 := Lib.hid (HBW.out.trans (hb2.mono HBW.out.size))
  have HO2 := Lib.hid (B0'.out.below hb2 B0'.out.2.2)
  have HE2 := Lib.hid (HE0.out.below hb2 HE0.out.2.2)
  generalize befS m (fb, fa) = q at *
  obtain ⟨o0, o1, o2, o3, o4, o5, o6, o7⟩ := HO2.out.eight
  obtain ⟨z0, z1, z2, z3, z4, z5⟩ := CellsAt.six HE2.out.1
  have zf := HE2.out.2.1
  have HE3 := Lib.hid (HE2.out.set (i := 1) (by simp) (.int .i64 q))
  have HO3 := Lib.hid (HO2.out.far (g' := w.heap.size + 1) (by omega) 1 (.int .i64 q))
  have HB3 := Lib.hid (HB2.out.setCell (p := ⟨w.heap.size + 1, 1, none⟩) (by show w.heap.size ≤ w.heap.size + 1; omega) (.int .i64 q))
  clear hb2
  go_wp2_with fail
  refine (on_any m g (fb, fa) _ (HP.out.below HB3.out) HOK.out HF.out).mono ?_
  rintro e w4 ⟨⟨b4, o4', A4, c4, rfl, hb4, hc4, hs4⟩, hbw4⟩
  have hc5 : w4.cell? ⟨b4, o4', none⟩ = some (.slice A4 (szN m (fb, fa)) c4) := (hbw4.cell hb4).trans hc4
  have HB4 := Lib.hid (HB3.out.trans (hbw4.mono HB3.out.size))
  have HO4 := Lib.hid (HO3.out.below hbw4 HO3.out.2.2)
  have HE4 : Hid (Bx w4 (w.heap.size + 1) [.int .i64 0, .int .i64 q, .int .i64 0, .int .i64 fb, .int .i64 c, .int .i64 d]) := HE3.out.below hbw4 HE3.out.2.2
  generalize szN m (fb, fa) = s at *
  clear hbw4 hs4 hc4 hb4 o0 o1 o2 o3 o4 o5 o6 o7 z0 z1 z2 z3 z4 z5 zf
  obtain ⟨o0, o1, o2, o3, o4, o5, o6, o7⟩ := HO4.out.eight
  obtain ⟨z0, z1, z2, z3, z4, z5⟩ := CellsAt.six HE4.out.1
  have zf := HE4.out.2.1
  have hne : w.heap.size ≠ w.heap.size + 1 := by omega
  go_wp2
  go_ret
  refine ⟨_, rfl, ow_one2 ?_ ?_ ⟨2, q, s, fb, c, d⟩, ?_⟩
  · simpa using HB4.out.size
  · simp
  · have hx : ∀ i : Nat, w.heap.size ≤ (⟨w.heap.size + 1, i, none⟩ : Addr).block := fun i => Nat.le_succ _
    refine Below.alloc ?_ (by simpa using HB4.out.size) _
    repeat (refine Below.setCell ?_ (hx _) _)
    exact HB4.out

set_option maxHeartbeats 4000000 in
set_option maxRecDepth 100000 in
theorem opEvents_2 (m : Mc) (g : Nat) (w : World) (h : RdP w g m) (ok : okM m = true) (d fb fa tb ta c r : Int) (hf : ndOk m (fb, fa)) :
    Calls Tryz.prog 26 #[.pointer (some ⟨g, 0, none⟩), (⟨2, d, fb, fa, tb, ta, c, r⟩ : Opr).v] w (GivesOw w 47 6 (evD m ⟨2, d, fb, fa, tb, ta, c, r⟩).length (vE (evD m ⟨2, d, fb, fa, tb, ta, c, r⟩))) := by
  have HP := Lib.hid h
  have HOK := Lib.hid ok
  have HF := Lib.hid hf
  have hbl := befS_le ok (fb, fa)
  have hsl := szN_le ok (fb, fa)
  have HE := Lib.hid (evD2 (m := m) (x := ⟨2, d, fb, fa, tb, ta, c, r⟩) rfl)
  have he : evD m ⟨2, d, fb, fa, tb, ta, c, r⟩ = [⟨3, (befS m (fb, fa) : Int) + (szN m (fb, fa) : Int), 0, fb, c, d⟩] := HE.out
  rw [he]
  have B0 := Bx.new w [.int .i64 2, .int .i64 d, .int .i64 fb, .int .i64 fa, .int .i64 tb, .int .i64 ta, .int .i64 c, .int .i64 r] 41
  have HBW := Lib.hid (((Below.refl w.heap.size w).alloc (Nat.le_refl _) (.cells #[.int .i64 2, .int .i64 d, .int .i64 fb, .int .i64 fa, .int .i64 tb, .int .i64 ta, .int .i64 c, .int .i64 r] 41)).alloc (by simp) (.cells #[.int .i64 0, .int .i64 0, .int .i64 0, .int .i64 fb, .int .i64 c, .int .i64 d] 47))
  have B0' := Lib.hid (B0.alloc (.cells #[.int .i64 0, .int .i64 0, .int .i64 0, .int .i64 fb, .int .i64 c, .int .i64 d] 47))
  have E0 := Bx.new (w.alloc (.cells #[.int .i64 2, .int .i64 d, .int .i64 fb, .int .i64 fa, .int .i64 tb, .int .i64 ta, .int .i64 c, .int .i64 r] 41)) [.int .i64 0, .int .i64 0, .int .i64 0, .int .i64 fb, .int .i64 c, .int .i64 d] 47
  rw [World.size_alloc] at E0
  have HE0 := Lib.hid E0
  clear h ok hf he E0 B0
  go_enter Tryz.func26, Tryz.ntmps26
  go_wp2_with fail
  refine (makesLoop_rk 2 _).mono ?_
  rintro e w1 ⟨rfl, rfl⟩
  go_wp2_with fail
  refine (before_any m g (fb, fa) _ (HP.out.below HBW.out) HOK.out HF.out).mono ?_
  rintro e w2 ⟨rfl, hb2⟩
  have HB2 := Lib.hid (HBW.out.trans (hb2.mono HBW.out.size))
  have HO2 := Lib.hid (B0'.out.below hb2 B0'.out.2.2)
  have HE2 := Lib.hid (HE0.out.below hb2 HE0.out.2.2)
  generalize befS m (fb, fa) = q at *
  obtain ⟨o0, o1, o2, o3, o4, o5, o6, o7⟩ := HO2.out.eight
  obtain ⟨z0, z1, z2, z3, z4, z5⟩ := CellsAt.six HE2.out.1
  have zf := HE2.out.2.1
  have HE3 := Lib.hid (HE2.out.set (i := 1) (by simp) (.int .i64 q))
  have HO3 := Lib.hid (HO2.out.far (g' := w.heap.size + 1) (by omega) 1 (.int .i64 q))
  have HB3 := Lib.hid (HB2.out.setCell (p := ⟨w.heap.size + 1, 1, none⟩) (by show w.heap.size ≤ w.heap.size + 1; omega) (.int .i64 q))
  clear hb2
  go_wp2_with fail
  refine (on_any m g (fb, fa) _ (HP.out.below HB3.out) HOK.out HF.out).mono ?_
  rintro e w4 ⟨⟨b4, o4', A4, c4, rfl, hb4, hc4, hs4⟩, hbw4⟩
  have hc5 : w4.cell? ⟨b4, o4', none⟩ = some (.slice A4 (szN m (fb, fa)) c4) := (hbw4.cell hb4).trans hc4
  have HB4 := Lib.hid (HB3.out.trans (hbw4.mono HB3.out.size))
  have HO4 := Lib.hid (HO3.out.below hbw4 HO3.out.2.2)
  have HE4 : Hid (Bx w4 (w.heap.size + 1) [.int .i64 0, .int .i64 q, .int .i64 0, .int .i64 fb, .int .i64 c, .int .i64 d]) := HE3.out.below hbw4 HE3.out.2.2
  generalize szN m (fb, fa) = s at *
  clear hbw4 hs4 hc4 hb4 o0 o1 o2 o3 o4 o5 o6 o7 z0 z1 z2 z3 z4 z5 zf
  obtain ⟨o0, o1, o2, o3, o4, o5, o6, o7⟩ := HO4.out.eight
  obtain ⟨z0, z1, z2, z3, z4, z5⟩ := CellsAt.six HE4.out.1
  have zf := HE4.out.2.1
  have hne : w.heap.size ≠ w.heap.size + 1 := by omega
  go_wp2
  go_ret
  refine ⟨_, rfl, ow_one2 ?_ ?_ ⟨3, (q : Int) + s, 0, fb, c, d⟩, ?_⟩
  · simpa using HB4.out.size
  · simp
  · have hx : ∀ i : Nat, w.heap.size ≤ (⟨w.heap.size + 1, i, none⟩ : Addr).block := fun i => Nat.le_succ _
    refine Below.alloc ?_ (by simpa using HB4.out.size) _
    repeat (refine Below.setCell ?_ (hx _) _)
    exact HB4.out

set_option maxHeartbeats 4000000 in
set_option maxRecDepth 100000 in
theorem opEvents_5b (m : Mc) (g : Nat) (w : World) (h : RdP w g m) (ok : okM m = true) (d fa tb ta c r : Int) (hf : ndOk m (2, fa)) :
    Calls Tryz.prog 26 #[.pointer (some ⟨g, 0, none⟩), (⟨5, d, 2, fa, tb, ta, c, r⟩ : Opr).v] w (GivesOw w 47 6 (evD m ⟨5, d, 2, fa, tb, ta, c, r⟩).length (vE (evD m ⟨5, d, 2, fa, tb, ta, c, r⟩))) := by
  have HP := Lib.hid h
  have HOK := Lib.hid ok
  have HF := Lib.hid hf
  have hbl := befS_le ok (2, fa)
  have hsl := szN_le ok (2, fa)
  have HE := Lib.hid (evD5 (m := m) (x := ⟨5, d, 2, fa, tb, ta, c, r⟩) rfl)
  have he : evD m ⟨5, d, 2, fa, tb, ta, c, r⟩ = [⟨5, (befS m (2, fa) : Int) + (szN m (2, fa) : Int), szN m (2, fa), 2, c, d⟩] := HE.out.trans (by rw [if_pos rfl])
  rw [he]
  have B0 := Bx.new w [.int .i64 5, .int .i64 d, .int .i64 2, .int .i64 fa, .int .i64 tb, .int .i64 ta, .int .i64 c, .int .i64 r] 41
  have HBW := Lib.hid (((Below.refl w.heap.size w).alloc (Nat.le_refl _) (.cells #[.int .i64 5, .int .i64 d, .int .i64 2, .int .i64 fa, .int .i64 tb, .int .i64 ta, .int .i64 c, .int .i64 r] 41)).alloc (by simp) (.cells #[.int .i64 0, .int .i64 0, .int .i64 0, .int .i64 2, .int .i64 c, .int .i64 d] 47))
  have B0' := Lib.hid (B0.alloc (.cells #[.int .i64 0, .int .i64 0, .int .i64 0, .int .i64 2, .int .i64 c, .int .i64 d] 47))
  have E0 := Bx.new (w.alloc (.cells #[.int .i64 5, .int .i64 d, .int .i64 2, .int .i64 fa, .int .i64 tb, .int .i64 ta, .int .i64 c, .int .i64 r] 41)) [.int .i64 0, .int .i64 0, .int .i64 0, .int .i64 2, .int .i64 c, .int .i64 d] 47
  rw [World.size_alloc] at E0
  have HE0 := Lib.hid E0
  clear h ok hf he E0 B0
  go_enter Tryz.func26, Tryz.ntmps26
  go_wp2_with fail
  refine (makesLoop_rk 5 _).mono ?_
  rintro e w1 ⟨rfl, rfl⟩
  go_wp2_with fail
  refine (before_any m g (2, fa) _ (HP.out.below HBW.out) HOK.out HF.out).mono ?_
  rintro e w2 ⟨rfl, hb2⟩
  have HB2 := Lib.hid (HBW.out.trans (hb2.mono HBW.out.size))
  have HO2 := Lib.hid (B0'.out.below hb2 B0'.out.2.2)
  have HE2 := Lib.hid (HE0.out.below hb2 HE0.out.2.2)
  generalize befS m (2, fa) = q at *
  obtain ⟨o0, o1, o2, o3, o4, o5, o6, o7⟩ := HO2.out.eight
  obtain ⟨z0, z1, z2, z3, z4, z5⟩ := CellsAt.six HE2.out.1
  have zf := HE2.out.2.1
  have HE3 := Lib.hid (HE2.out.set (i := 1) (by simp) (.int .i64 q))
  have HO3 := Lib.hid (HO2.out.far (g' := w.heap.size + 1) (by omega) 1 (.int .i64 q))
  have HB3 := Lib.hid (HB2.out.setCell (p := ⟨w.heap.size + 1, 1, none⟩) (by show w.heap.size ≤ w.heap.size + 1; omega) (.int .i64 q))
  clear hb2
  go_wp2_with fail
  refine (on_any m g (2, fa) _ (HP.out.below HB3.out) HOK.out HF.out).mono ?_
  rintro e w4 ⟨⟨b4, o4', A4, c4, rfl, hb4, hc4, hs4⟩, hbw4⟩
  have hc5 : w4.cell? ⟨b4, o4', none⟩ = some (.slice A4 (szN m (2, fa)) c4) := (hbw4.cell hb4).trans hc4
  have HB4 := Lib.hid (HB3.out.trans (hbw4.mono HB3.out.size))
  have HO4 := Lib.hid (HO3.out.below hbw4 HO3.out.2.2)
  have HE4 : Hid (Bx w4 (w.heap.size + 1) [.int .i64 0, .int .i64 q, .int .i64 0, .int .i64 2, .int .i64 c, .int .i64 d]) := HE3.out.below hbw4 HE3.out.2.2
  generalize szN m (2, fa) = s at *
  clear hbw4 hs4 hc4 hb4 o0 o1 o2 o3 o4 o5 o6 o7 z0 z1 z2 z3 z4 z5 zf
  obtain ⟨o0, o1, o2, o3, o4, o5, o6, o7⟩ := HO4.out.eight
  obtain ⟨z0, z1, z2, z3, z4, z5⟩ := CellsAt.six HE4.out.1
  have zf := HE4.out.2.1
  have hne : w.heap.size ≠ w.heap.size + 1 := by omega
  go_wp2
  go_ret
  refine ⟨_, rfl, ow_one2 ?_ ?_ ⟨5, (q : Int) + s, s, 2, c, d⟩, ?_⟩
  · simpa using HB4.out.size
  · simp
  · have hx : ∀ i : Nat, w.heap.size ≤ (⟨w.heap.size + 1, i, none⟩ : Addr).block := fun i => Nat.le_succ _
    refine Below.alloc ?_ (by simpa using HB4.out.size) _
    repeat (refine Below.setCell ?_ (hx _) _)
    exact HB4.out

set_option maxHeartbeats 4000000 in
set_option maxRecDepth 100000 in
theorem opEvents_5f (m : Mc) (g : Nat) (w : World) (h : RdP w g m) (ok : okM m = true) (d fb fa tb ta c r : Int) (hf : ndOk m (fb, fa)) (hfb : fb ≠ 2) :
    Calls Tryz.prog 26 #[.pointer (some ⟨g, 0, none⟩), (⟨5, d, fb, fa, tb, ta, c, r⟩ : Opr).v] w (GivesOw w 47 6 (evD m ⟨5, d, fb, fa, tb, ta, c, r⟩).length (vE (evD m ⟨5, d, fb, fa, tb, ta, c, r⟩))) := by
  have HP := Lib.hid h
  have HOK := Lib.hid ok
  have HF := Lib.hid hf
  have hbl := befS_le ok (fb, fa)
  have hsl := szN_le ok (fb, fa)
  have HE := Lib.hid (evD5 (m := m) (x := ⟨5, d, fb, fa, tb, ta, c, r⟩) rfl)
  have he : evD m ⟨5, d, fb, fa, tb, ta, c, r⟩ = [⟨5, (befS m (fb, fa) : Int), szN m (fb, fa), fb, c, d⟩] := HE.out.trans (by rw [if_neg hfb])
  rw [he]
  have B0 := Bx.new w [.int .i64 5, .int .i64 d, .int .i64 fb, .int .i64 fa, .int .i64 tb, .int .i64 ta, .int .i64 c, .int .i64 r] 41
  have HBW := Lib.hid (((Below.refl w.heap.size w).alloc (Nat.le_refl _) (.cells #[.int .i64 5, .int .i64 d, .int .i64 fb, .int .i64 fa, .int .i64 tb, .int .i64 ta, .int .i64 c, .int .i64 r] 41)).alloc (by simp) (.cells #[.int .i64 0, .int .i64 0, .int .i64 0, .int .i64 fb, .int .i64 c, .int .i64 d] 47))
  have B0' := Lib.hid (B0.alloc (.cells #[.int .i64 0, .int .i64 0, .int .i64 0, .int .i64 fb, .int .i64 c, .int .i64 d] 47))
  have E0 := Bx.new (w.alloc (.cells #[.int .i64 5, .int .i64 d, .int .i64 fb, .int .i64 fa, .int .i64 tb, .int .i64 ta, .int .i64 c, .int .i64 r] 41)) [.int .i64 0, .int .i64 0, .int .i64 0, .int .i64 fb, .int .i64 c, .int .i64 d] 47
  rw [World.size_alloc] at E0
  have HE0 := Lib.hid E0
  have hfb' : (fb == 2) = false := by simpa using hfb
  clear hfb
  clear h ok hf he E0 B0
  go_enter Tryz.func26, Tryz.ntmps26
  go_wp2_with fail
  refine (makesLoop_rk 5 _).mono ?_
  rintro e w1 ⟨rfl, rfl⟩
  go_wp2_with fail
  refine (before_any m g (fb, fa) _ (HP.out.below HBW.out) HOK.out HF.out).mono ?_
  rintro e w2 ⟨rfl, hb2⟩
  have HB2 := Lib.hid (HBW.out.trans (hb2.mono HBW.out.size))
  have HO2 := Lib.hid (B0'.out.below hb2 B0'.out.2.2)
  have HE2 := Lib.hid (HE0.out.below hb2 HE0.out.2.2)
  generalize befS m (fb, fa) = q at *
  obtain ⟨o0, o1, o2, o3, o4, o5, o6, o7⟩ := HO2.out.eight
  obtain ⟨z0, z1, z2, z3, z4, z5⟩ := CellsAt.six HE2.out.1
  have zf := HE2.out.2.1
  have HE3 := Lib.hid (HE2.out.set (i := 1) (by simp) (.int .i64 q))
  have HO3 := Lib.hid (HO2.out.far (g' := w.heap.size + 1) (by omega) 1 (.int .i64 q))
  have HB3 := Lib.hid (HB2.out.setCell (p := ⟨w.heap.size + 1, 1, none⟩) (by show w.heap.size ≤ w.heap.size + 1; omega) (.int .i64 q))
  clear hb2
  go_wp2_with fail
  refine (on_any m g (fb, fa) _ (HP.out.below HB3.out) HOK.out HF.out).mono ?_
  rintro e w4 ⟨⟨b4, o4', A4, c4, rfl, hb4, hc4, hs4⟩, hbw4⟩
  have hc5 : w4.cell? ⟨b4, o4', none⟩ = some (.slice A4 (szN m (fb, fa)) c4) := (hbw4.cell hb4).trans hc4
  have HB4 := Lib.hid (HB3.out.trans (hbw4.mono HB3.out.size))
  have HO4 := Lib.hid (HO3.out.below hbw4 HO3.out.2.2)
  have HE4 : Hid (Bx w4 (w.heap.size + 1) [.int .i64 0, .int .i64 q, .int .i64 0, .int .i64 fb, .int .i64 c, .int .i64 d]) := HE3.out.below hbw4 HE3.out.2.2
  generalize szN m (fb, fa) = s at *
  clear hbw4 hs4 hc4 hb4 o0 o1 o2 o3 o4 o5 o6 o7 z0 z1 z2 z3 z4 z5 zf
  obtain ⟨o0, o1, o2, o3, o4, o5, o6, o7⟩ := HO4.out.eight
  obtain ⟨z0, z1, z2, z3, z4, z5⟩ := CellsAt.six HE4.out.1
  have zf := HE4.out.2.1
  have hne : w.heap.size ≠ w.heap.size + 1 := by omega
  go_wp2
  go_ret
  refine ⟨_, rfl, ow_one2 ?_ ?_ ⟨5, q, s, fb, c, d⟩, ?_⟩
  · simpa using HB4.out.size
  · simp
  · have hx : ∀ i : Nat, w.heap.size ≤ (⟨w.heap.size + 1, i, none⟩ : Addr).block := fun i => Nat.le_succ _
    refine Below.alloc ?_ (by simpa using HB4.out.size) _
    repeat (refine Below.setCell ?_ (hx _) _)
    exact HB4.out

theorem opEvents_5 (m : Mc) (g : Nat) (w : World) (h : RdP w g m) (ok : okM m = true) (d fb fa tb ta c r : Int) (hf : ndOk m (fb, fa)) :
    Calls Tryz.prog 26 #[.pointer (some ⟨g, 0, none⟩), (⟨5, d, fb, fa, tb, ta, c, r⟩ : Opr).v] w (GivesOw w 47 6 (evD m ⟨5, d, fb, fa, tb, ta, c, r⟩).length (vE (evD m ⟨5, d, fb, fa, tb, ta, c, r⟩))) := by
  by_cases hfb : fb = 2
  · subst hfb
    exact opEvents_5b m g w h ok d fa tb ta c r hf
  · exact opEvents_5f m g w h ok d fb fa tb ta c r hf hfb

set_option maxHeartbeats 4000000 in
set_option maxRecDepth 100000 in
theorem opEvents_6 (m : Mc) (g : Nat) (w : World) (h : RdP w g m) (ok : okM m = true) (d fb fa tb ta c r : Int) (hf : ndOk m (fb, fa)) :
    Calls Tryz.prog 26 #[.pointer (some ⟨g, 0, none⟩), (⟨6, d, fb, fa, tb, ta, c, r⟩ : Opr).v] w (GivesOw w 47 6 (evD m ⟨6, d, fb, fa, tb, ta, c, r⟩).length (vE (evD m ⟨6, d, fb, fa, tb, ta, c, r⟩))) := by
  have HP := Lib.hid h
  have HOK := Lib.hid ok
  have HF := Lib.hid hf
  have hbl := befS_le ok (fb, fa)
  have hsl := szN_le ok (fb, fa)
  have HE := Lib.hid (evD6 (m := m) (x := ⟨6, d, fb, fa, tb, ta, c, r⟩) rfl)
  have he : evD m ⟨6, d, fb, fa, tb, ta, c, r⟩ = [⟨4, befS m (fb, fa), szN m (fb, fa), 0, 0, 0⟩] := HE.out
  rw [he]
  have B0 := Bx.new w [.int .i64 6, .int .i64 d, .int .i64 fb, .int .i64 fa, .int .i64 tb, .int .i64 ta, .int .i64 c, .int .i64 r] 41
  have HBW := Lib.hid (((Below.refl w.heap.size w).alloc (Nat.le_refl _) (.cells #[.int .i64 6, .int .i64 d, .int .i64 fb, .int .i64 fa, .int .i64 tb, .int .i64 ta, .int .i64 c, .int .i64 r] 41)).alloc (by simp) (.cells #[.int .i64 0, .int .i64 0, .int .i64 0, .int .i64 fb, .int .i64 c, .int .i64 d] 47))
  have B0' := Lib.hid (B0.alloc (.cells #[.int .i64 0, .int .i64 0, .int .i64 0, .int .i64 fb, .int .i64 c, .int .i64 d] 47))
  have E0 := Bx.new (w.alloc (.cells #[.int .i64 6, .int .i64 d, .int .i64 fb, .int .i64 fa, .int .i64 tb, .int .i64 ta, .int .i64 c, .int .i64 r] 41)) [.int .i64 0, .int .i64 0, .int .i64 0, .int .i64 fb, .int .i64 c, .int .i64 d] 47
  rw [World.size_alloc] at E0
  have HE0 := Lib.hid E0
  clear h ok hf he E0 B0
  go_enter Tryz.func26, Tryz.ntmps26
  go_wp2_with fail
  refine (makesLoop_rk 6 _).mono ?_
  rintro e w1 ⟨rfl, rfl⟩
  go_wp2_with fail
  refine (before_any m g (fb, fa) _ (HP.out.below HBW.out) HOK.out HF.out).mono ?_
  rintro e w2 ⟨rfl, hb2⟩
  have HB2 := Lib.hid (HBW.out.trans (hb2.mono HBW.out.size))
  have HO2 := Lib.hid (B0'.out.below hb2 B0'.out.2.2)
  have HE2 := Lib.hid (HE0.out.below hb2 HE0.out.2.2)
  generalize befS m (fb, fa) = q at *
  obtain ⟨o0, o1, o2, o3, o4, o5, o6, o7⟩ := HO2.out.eight
  obtain ⟨z0, z1, z2, z3, z4, z5⟩ := CellsAt.six HE2.out.1
  have zf := HE2.out.2.1
  have HE3 := Lib.hid (HE2.out.set (i := 1) (by simp) (.int .i64 q))
  have HO3 := Lib.hid (HO2.out.far (g' := w.heap.size + 1) (by omega) 1 (.int .i64 q))
  have HB3 := Lib.hid (HB2.out.setCell (p := ⟨w.heap.size + 1, 1, none⟩) (by show w.heap.size ≤ w.heap.size + 1; omega) (.int .i64 q))
  clear hb2
  go_wp2_with fail
  refine (on_any m g (fb, fa) _ (HP.out.below HB3.out) HOK.out HF.out).mono ?_
  rintro e w4 ⟨⟨b4, o4', A4, c4, rfl, hb4, hc4, hs4⟩, hbw4⟩
  have hc5 : w4.cell? ⟨b4, o4', none⟩ = some (.slice A4 (szN m (fb, fa)) c4) := (hbw4.cell hb4).trans hc4
  have HB4 := Lib.hid (HB3.out.trans (hbw4.mono HB3.out.size))
  have HO4 := Lib.hid (HO3.out.below hbw4 HO3.out.2.2)
  have HE4 : Hid (Bx w4 (w.heap.size + 1) [.int .i64 0, .int .i64 q, .int .i64 0, .int .i64 fb, .int .i64 c, .int .i64 d]) := HE3.out.below hbw4 HE3.out.2.2
  generalize szN m (fb, fa) = s at *
  clear hbw4 hs4 hc4 hb4 o0 o1 o2 o3 o4 o5 o6 o7 z0 z1 z2 z3 z4 z5 zf
  obtain ⟨o0, o1, o2, o3, o4, o5, o6, o7⟩ := HO4.out.eight
  obtain ⟨z0, z1, z2, z3, z4, z5⟩ := CellsAt.six HE4.out.1
  have zf := HE4.out.2.1
  have hne : w.heap.size ≠ w.heap.size + 1 := by omega
  go_wp2
  go_ret
  refine ⟨_, rfl, ow_one2 ?_ ?_ ⟨4, q, s, 0, 0, 0⟩, ?_⟩
  · simpa using HB4.out.size
  · simp
  · have hx : ∀ i : Nat, w.heap.size ≤ (⟨w.heap.size + 1, i, none⟩ : Addr).block := fun i => Nat.le_succ _
    refine Below.alloc ?_ (by simpa using HB4.out.size) _
    repeat (refine Below.setCell ?_ (hx _) _)
    exact HB4.out

end Go.Proofs.YthhpjgdeehcgjaaGreat

/-
  The program's opEvents at a rack operation, and where nothing is told; all of it.
-/
namespace Go.Proofs.YthhpjgdeehcgjaaGreat
set_option linter.unusedVariables false
set_option linter.unusedSimpArgs false
open Go.RowKit

set_option maxHeartbeats 4000000 in
set_option maxRecDepth 100000 in
theorem opEvents_7 (m : Mc) (g : Nat) (w : World) (h : RdP w g m) (ok : okM m = true) (d fb fa tb ta c r : Int) (r0 : -3 ≤ r) (r1 : r ≤ 3) :
    Calls Tryz.prog 26 #[.pointer (some ⟨g, 0, none⟩), (⟨7, d, fb, fa, tb, ta, c, r⟩ : Opr).v] w (GivesOw w 47 6 (evD m ⟨7, d, fb, fa, tb, ta, c, r⟩).length (vE (evD m ⟨7, d, fb, fa, tb, ta, c, r⟩))) := by
  have HP := Lib.hid h
  have HOK := Lib.hid ok
  have he : evD m ⟨7, d, fb, fa, tb, ta, c, r⟩ = crEs (rkAll m r) := evD7 rfl
  rw [he]
  have hs : (w.alloc (.cells #[.int .i64 7, .int .i64 d, .int .i64 fb, .int .i64 fa, .int .i64 tb, .int .i64 ta, .int .i64 c, .int .i64 r] 41)).heap.size = w.heap.size + 1 := by simp
  have HBW := Lib.hid (((Below.refl w.heap.size w).alloc (Nat.le_refl _) (.cells #[.int .i64 7, .int .i64 d, .int .i64 fb, .int .i64 fa, .int .i64 tb, .int .i64 ta, .int .i64 c, .int .i64 r] 41)).alloc (by simp) (.cells #[.int .i64 0, .int .i64 0, .int .i64 0, .int .i64 fb, .int .i64 c, .int .i64 d] 47))
  clear h ok he
  go_enter Tryz.func26, Tryz.ntmps26
  go_wp2_with fail
  refine (makesLoop_rk 7 _).mono ?_
  rintro e w1 ⟨rfl, rfl⟩
  go_wp2_with fail
  refine (rackAll_any m g _ (HP.out.below HBW.out) HOK.out r r0 r1).mono ?_
  rintro e w2 ⟨v2, rfl, ho2, hb2⟩
  have HF := Lib.hid (show GivesOw w 47 6 (crEs (rkAll m r)).length (vE (crEs (rkAll m r))) (.returned v2) w2 from ⟨v2, rfl, ho2.wide HBW.out.size (Nat.le_refl _), HBW.out.trans (hb2.mono HBW.out.size)⟩)
  clear ho2 hb2
  go_wp2
  go_ret
  exact HF.out

set_option maxHeartbeats 4000000 in
set_option maxRecDepth 100000 in
theorem opEvents_0 (m : Mc) (g : Nat) (w : World) (k d fb fa tb ta c r : Int) (hk : k = 3 ∨ k = 4 ∨ k = 8 ∨ k = 9) :
    Calls Tryz.prog 26 #[.pointer (some ⟨g, 0, none⟩), (⟨k, d, fb, fa, tb, ta, c, r⟩ : Opr).v] w (GivesOw w 47 6 (evD m ⟨k, d, fb, fa, tb, ta, c, r⟩).length (vE (evD m ⟨k, d, fb, fa, tb, ta, c, r⟩))) := by
  have he : evD m ⟨k, d, fb, fa, tb, ta, c, r⟩ = [] := evD0 (by show k ≠ 1; omega) (by show k ≠ 2; omega) (by show k ≠ 5; omega) (by show k ≠ 6; omega) (by show k ≠ 7; omega)
  rw [he]
  clear he
  have HBW := Lib.hid (fun k => ((Below.refl w.heap.size w).alloc (Nat.le_refl _) (.cells #[.int .i64 k, .int .i64 d, .int .i64 fb, .int .i64 fa, .int .i64 tb, .int .i64 ta, .int .i64 c, .int .i64 r] 41)).alloc (by simp) (.cells #[.int .i64 0, .int .i64 0, .int .i64 0, .int .i64 fb, .int .i64 c, .int .i64 d] 47))
  rcases hk with rfl | rfl | rfl | rfl
  all_goals
    go_enter Tryz.func26, Tryz.ntmps26
    go_wp2_with fail
    refine (makesLoop_rk _ _).mono ?_
    rintro e w1 ⟨rfl, rfl⟩
    go_wp2
    go_ret
    exact ⟨_, rfl, OwC.nil, HBW.out _⟩

/-- The program's events of an operation that fits. -/
theorem opEvents_any (m : Mc) (g : Nat) (w : World) (h : RdP w g m) (ok : okM m = true) (x : Opr) (hx : okOpW m.wd x = true) :
    Calls Tryz.prog 26 #[.pointer (some ⟨g, 0, none⟩), x.v] w (GivesOw w 47 6 (evD m x).length (vE (evD m x))) := by
  obtain ⟨h0, hfw, -⟩ := okOpW_iff.1 hx
  obtain ⟨k, d, fb, fa, tb, ta, c, r⟩ := x
  have hn : ndB fb fa = true → ndOk m (fb, fa) := fun hf => by
    obtain ⟨h1, h2, h3⟩ := ndB_iff.1 hf
    exact ⟨h1, h2, hfw⟩
  rcases okOp_kinds h0 with ⟨hk, hd, hf, -⟩ | ⟨hk, hf, -⟩ | ⟨hk, hf, -⟩ | ⟨hk, hf, -⟩ | ⟨hk, hr1, hr2, -⟩ | ⟨hk, -⟩ | ⟨hk, -⟩
  · rcases hk with hk | hk | hk
    · have hk' : k = 1 := hk
      subst hk'
      exact opEvents_1 m g w h ok d fb fa tb ta c r (hn hf)
    · have hk' : k = 2 := hk
      subst hk'
      exact opEvents_2 m g w h ok d fb fa tb ta c r (hn hf)
    · exact opEvents_0 m g w k d fb fa tb ta c r (.inl hk)
  · exact opEvents_0 m g w k d fb fa tb ta c r (.inr (.inl hk))
  · have hk' : k = 5 := hk
    subst hk'
    exact opEvents_5 m g w h ok d fb fa tb ta c r (hn hf)
  · have hk' : k = 6 := hk
    subst hk'
    exact opEvents_6 m g w h ok d fb fa tb ta c r (hn hf)
  · have hk' : k = 7 := hk
    subst hk'
    exact opEvents_7 m g w h ok d fb fa tb ta c r hr1 hr2
  · exact opEvents_0 m g w k d fb fa tb ta c r (.inr (.inr (.inl hk)))
  · exact opEvents_0 m g w k d fb fa tb ta c r (.inr (.inr (.inr hk)))

end Go.Proofs.YthhpjgdeehcgjaaGreat
