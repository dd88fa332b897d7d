/-
  The program's BraidEvents returns what the reference's returns, for every braid; no condition.
-/
import Derived.Test.YtmgicdcpeblpnaaBraidE
import Derived.Test.YtmgicdcpeblpnaaSame
import Derived.Test.YtmgicdcpeblpnaaMark
import Derived.Test.YtmgicdcpeblpnaaOpenBr
import Derived.Deep.RegionHeld3
namespace Go.Proofs.Ytmgicdcpeblpnaa
set_option linter.unusedVariables false
set_option linter.unusedSimpArgs false
open Go.ChangeShapes Go.WideShapes Go.ChangeAt Go.RowKit
open Go.ChangeMaps (open_string shut_string)

set_option maxHeartbeats 8000000 in
set_option maxRecDepth 100000 in
theorem FnExactBraidEvents.core (v0 : Value) (b : Br) (W : World) (hl0 : RdBr W W.heap.size v0 b) :
    Calls Try.prog 9 #[v0] W fun e W' => e = .returned (.bool true) ∧ Below W.heap.size W W' := by
  obtain ⟨s0, rfl, h0⟩ := hl0
  obtain ⟨A0, n0, c0, rfl⟩ := h0.shape
  have H0 : Hid (RdBr W W.heap.size _ b) := ⟨_, rfl, h0⟩
  clear h0
  have hcl0 : ∀ w1, Below ((W.alloc (.cells #[.int .i64 (b).n, .slice A0 n0 c0] 42)) : World).heap.size (W.alloc (.cells #[.int .i64 (b).n, .slice A0 n0 c0] 42)) w1 → CellsAt w1 (W.heap.size) 0 [.int .i64 (b).n, .slice A0 n0 c0] := by
    intro w1 hb1 j u hu
    rw [hb1.cell (by simp; try omega)]
    rcases j with _ | _ | j <;> simp at hu <;> subst hu <;> simp [go_sem]
  obtain ⟨z0, e0⟩ : ∃ z, szBr 1048576 b = z := ⟨_, rfl⟩
  have E0 := Lib.hid e0
  clear e0
  by_cases p0 : 0 ≤ z0
  case neg =>
    have q0 : z0 < 0 := by omega
    clear p0
    go_enter Try.func9, Try.ntmps9
    go_wp2_with fail
    refine (szBraid_any _ b 1048576 _ ((H0.out.below ((Below.refl _ _).alloc (by first | exact Nat.le_refl _ | (simp; done) | (simp; omega)) _)).more ((Below.refl _ _).alloc (by first | exact Nat.le_refl _ | (simp; done) | (simp; omega)) _).size) (by omega) (by omega)).mono ?_
    rintro e w1 ⟨rfl, hb⟩
    rw [E0.out]
    have S1 := Lib.hid hb.size
    have B1 := Lib.hid (hb)
    clear hb
    go_wp2
    go_ret
    exact ⟨rfl, (((Below.refl _ _).alloc (by first | exact Nat.le_refl _ | (simp; done) | (simp; omega)) _).trans (B1.out.mono (by simp)))⟩
  obtain ⟨f0, g0⟩ := szBr_pos' E0.out p0
  have s0 := Lib.hid (show (b).w.length ≤ 1048576 by omega)
  have u0 : z0 ≤ 1048576 := by omega
  clear f0 g0
  have sr : Hid ((braidL b).length ≤ 1048576) := braidL_len s0.out
  go_enter Try.func9, Try.ntmps9
  go_wp2_with fail
  refine (szBraid_any _ b 1048576 _ ((H0.out.below ((Below.refl _ _).alloc (by first | exact Nat.le_refl _ | (simp; done) | (simp; omega)) _)).more ((Below.refl _ _).alloc (by first | exact Nat.le_refl _ | (simp; done) | (simp; omega)) _).size) (by omega) (by omega)).mono ?_
  rintro e w1 ⟨rfl, hb⟩
  rw [E0.out]
  have S1 := Lib.hid hb.size
  have B1 := Lib.hid (hb)
  clear hb
  obtain ⟨k0_0, k0_1⟩ := (hcl0 _ B1.out).two
  go_wp2_with fail
  clear k0_0 k0_1
  refine (toBraid_any _ b _ ((H0.out.below (((Below.refl _ _).alloc (by first | exact Nat.le_refl _ | (simp; done) | (simp; omega)) _).trans (B1.out.mono (by simp)))).more (((Below.refl _ _).alloc (by first | exact Nat.le_refl _ | (simp; done) | (simp; omega)) _).trans (B1.out.mono (by simp))).size) s0.out).mono ?_
  rintro e w2 ⟨va0, rfl, ho, hb⟩
  obtain ⟨sa0, rfl, ho⟩ := ho
  obtain ⟨Aa0, ca0, rfl, -⟩ := ho.cells
  have S2 := Lib.hid hb.size
  have B2 := Lib.hid (B1.out.trans (hb.mono B1.out.size))
  have Oa0 : Hid (OwBr _ _ _ _ (b)) := ⟨_, rfl, ho⟩
  clear ho
  clear hb B1
  go_wp2_with fail
  refine (specBraidEvents_any _ b _ ((RdBr.of_own Oa0.out).more (by have := S1.out; have := S2.out; omega)) s0.out).mono ?_
  rintro e w3 ⟨vw, rfl, ho, hb⟩
  have Oa0' := Lib.hid (Oa0.out.below (hb.mono (by have := S1.out; have := S2.out; omega)))
  clear Oa0
  have Oa0 := Oa0'
  clear Oa0'
  have S3 := Lib.hid hb.size
  have B3 := Lib.hid (B2.out.trans (hb.mono B2.out.size))
  have Ow := Lib.hid ho
  clear ho
  clear hb B2
  clear Oa0
  obtain ⟨k0_0, k0_1⟩ := (hcl0 _ B3.out).two
  go_wp2_with fail
  clear k0_0 k0_1
  refine (toBraid_any _ b _ ((H0.out.below (((Below.refl _ _).alloc (by first | exact Nat.le_refl _ | (simp; done) | (simp; omega)) _).trans (B3.out.mono (by simp)))).more (((Below.refl _ _).alloc (by first | exact Nat.le_refl _ | (simp; done) | (simp; omega)) _).trans (B3.out.mono (by simp))).size) s0.out).mono ?_
  rintro e w4 ⟨vx0, rfl, ho, hb⟩
  obtain ⟨sx0, rfl, ho⟩ := ho
  obtain ⟨Ax0, cx0, rfl, -⟩ := ho.cells
  have Ow' := Lib.hid (Ow.out.below (hb.mono (by have := S1.out; have := S2.out; have := S3.out; omega)))
  clear Ow
  have Ow := Ow'
  clear Ow'
  have S4 := Lib.hid hb.size
  have B4 := Lib.hid (B3.out.trans (hb.mono B3.out.size))
  have Ox0 : Hid (OwBr _ _ _ _ (b)) := ⟨_, rfl, ho⟩
  clear ho
  clear hb B3
  have hb : Below w4.heap.size w4 (w4.alloc (.cells #[.int .i64 (b).n, .slice Ax0 (b).w.length cx0] 45)) := (Below.refl _ _).alloc (Nat.le_refl _) _
  have Ow' := Lib.hid (Ow.out.below (hb.mono (by have := S1.out; have := S2.out; have := S3.out; have := S4.out; omega)))
  have Ox0' := Lib.hid (Ox0.out.below (hb.mono (by have := S1.out; have := S2.out; have := S3.out; have := S4.out; omega)))
  clear Ow Ox0
  have Ow := Ow'
  have Ox0 := Ox0'
  clear Ow' Ox0'
  have S5 := Lib.hid hb.size
  have B5 := Lib.hid (B4.out.trans (hb.mono B4.out.size))
  clear hb B4
  have hqx0 : CellsAt (w4.alloc (.cells #[.int .i64 (b).n, .slice Ax0 (b).w.length cx0] 45)) w4.heap.size 0 [.int .i64 (b).n, .slice Ax0 (b).w.length cx0] := by
    intro j u hu
    rcases j with _ | _ | j <;> simp at hu <;> subst hu <;> simp [go_sem]
  have hclx0 : ∀ w1, Below (w4.alloc (.cells #[.int .i64 (b).n, .slice Ax0 (b).w.length cx0] 45)).heap.size (w4.alloc (.cells #[.int .i64 (b).n, .slice Ax0 (b).w.length cx0] 45)) w1 → CellsAt w1 w4.heap.size 0 [.int .i64 (b).n, .slice Ax0 (b).w.length cx0] := fun w1 hb1 => hqx0.below hb1 (by simp)
  clear hqx0
  have BXx0 := Lib.hid (Below.refl (w4.alloc (.cells #[.int .i64 (b).n, .slice Ax0 (b).w.length cx0] 45)).heap.size (w4.alloc (.cells #[.int .i64 (b).n, .slice Ax0 (b).w.length cx0] 45)))
  go_wp2_with fail
  refine (implBraidEvents_any _ b _ ((RdBr.of_own Ox0.out).more (by have := S1.out; have := S2.out; have := S3.out; have := S4.out; have := S5.out; omega)) s0.out).mono ?_
  rintro e w6 ⟨vg, rfl, ho, hb⟩
  have Ow' := Lib.hid (Ow.out.below (hb.mono (by have := S1.out; have := S2.out; have := S3.out; have := S4.out; have := S5.out; omega)))
  have Ox0' := Lib.hid (Ox0.out.below (hb.mono (by have := S1.out; have := S2.out; have := S3.out; have := S4.out; have := S5.out; omega)))
  clear Ow Ox0
  have Ow := Ow'
  have Ox0 := Ox0'
  clear Ow' Ox0'
  have S6 := Lib.hid hb.size
  have B6 := Lib.hid (B5.out.trans (hb.mono B5.out.size))
  have BXx0' := Lib.hid (BXx0.out.trans (hb.mono BXx0.out.size))
  clear BXx0
  have BXx0 := BXx0'
  clear BXx0'
  have Og := Lib.hid ho
  clear ho
  clear hb B5
  go_wp2_with fail
  refine (eqEventS_any _ _ (braidL b) (braidL b) _ _ ((RdS.of_own Ev.len Og.out).more (by have := S1.out; have := S2.out; have := S3.out; have := S4.out; have := S5.out; have := S6.out; omega)) ((RdS.of_own Ev.len Ow.out).more (by have := S1.out; have := S2.out; have := S3.out; have := S4.out; have := S5.out; have := S6.out; omega)) (Nat.le_refl _)).mono ?_
  rintro e w7 ⟨rfl, hb⟩
  have Ow' := Lib.hid (Ow.out.below (hb.mono (by have := S1.out; have := S2.out; have := S3.out; have := S4.out; have := S5.out; have := S6.out; omega)))
  have Ox0' := Lib.hid (Ox0.out.below (hb.mono (by have := S1.out; have := S2.out; have := S3.out; have := S4.out; have := S5.out; have := S6.out; omega)))
  have Og' := Lib.hid (Og.out.below (hb.mono (by have := S1.out; have := S2.out; have := S3.out; have := S4.out; have := S5.out; have := S6.out; omega)))
  clear Ow Ox0 Og
  have Ow := Ow'
  have Ox0 := Ox0'
  have Og := Og'
  clear Ow' Ox0' Og'
  have S7 := Lib.hid hb.size
  have B7 := Lib.hid (B6.out.trans (hb.mono B6.out.size))
  have BXx0' := Lib.hid (BXx0.out.trans (hb.mono BXx0.out.size))
  clear BXx0
  have BXx0 := BXx0'
  clear BXx0'
  clear hb B6
  obtain ⟨k0_0, k0_1⟩ := (hcl0 _ B7.out).two
  obtain ⟨kx0_0, kx0_1⟩ := (hclx0 _ BXx0.out).two
  go_wp2
  go_region_held3 (fun w' => w'.cell? ⟨W.heap.size, 0, none⟩ = some (.int .i64 (b).n) ∧ w'.cell? ⟨W.heap.size, 1, none⟩ = some (.slice A0 n0 c0) ∧ w'.cell? ⟨w4.heap.size, 0, none⟩ = some (.int .i64 (b).n) ∧ w'.cell? ⟨w4.heap.size, 1, none⟩ = some (.slice Ax0 (b).w.length cx0)) (first | exact ⟨k0_0, k0_1, kx0_0, kx0_1⟩ | exact ⟨m0_0, m0_1, mx0_0, mx0_1⟩ | exact ⟨q0_0, q0_1, qx0_0, qx0_1⟩)
    (first
      | (go_at_call 35; refine (toBraid_any _ b _ ((H0.out.below (((Below.refl _ _).alloc (by first | exact Nat.le_refl _ | (simp; done) | (simp; omega)) _).trans (B7.out.mono (by simp))).drew).more ((((Below.refl _ _).alloc (by first | exact Nat.le_refl _ | (simp; done) | (simp; omega)) _).trans (B7.out.mono (by simp))).drew).size) s0.out).mono ?_; rintro e wy ⟨vy, rfl, ho, hb⟩; obtain ⟨sy, rfl, ho⟩ := ho; obtain ⟨Ay, cy, rfl, -⟩ := ho.cells; have hba : Below w7.heap.size w7 wy := ((Below.refl _ _).drew).trans hb; have Oy : Hid (OwBr _ _ _ _ (b)) := ⟨_, rfl, ho⟩; have hbi := Lib.hid hba; have hb := hba; clear hba; have hbm := hb; have hbn := hb; clear hb; have hb := hbn; obtain ⟨m0_0, m0_1⟩ := (hcl0 _ (B7.out.trans (hbm.mono (by have := B7.out.size; omega)))).two; obtain ⟨mx0_0, mx0_1⟩ := (hclx0 _ (BXx0.out.trans (hbm.mono (by have := BXx0.out.size; omega)))).two)
      | (go_at_call 37; refine (eqBraid_any _ _ (b) (b) _ ((RdBr.of_own Ox0.out).below (hbm.mono (by have := S1.out; have := S2.out; have := S3.out; have := S4.out; have := S5.out; have := S6.out; have := S7.out; omega)) |>.more (by have := S1.out; have := S2.out; have := S3.out; have := S4.out; have := S5.out; have := S6.out; have := S7.out; have := hbm.size; omega)) (RdBr.of_own Oy.out)).mono ?_; rintro e we ⟨rfl, hbe⟩; have hbq : Below w7.heap.size w7 we := hbm.trans (hbe.mono hbm.size); obtain ⟨q0_0, q0_1⟩ := (hcl0 _ (B7.out.trans (hbq.mono (by have := B7.out.size; omega)))).two; obtain ⟨qx0_0, qx0_1⟩ := (hclx0 _ (BXx0.out.trans (hbq.mono (by have := BXx0.out.size; omega)))).two))
  clear k0_0 k0_1
  clear kx0_0 kx0_1
  have hb := hbq
  clear hbq hbm hbe Oy hbn hbi
  have Ow' := Lib.hid (Ow.out.below (hb.mono (by have := S1.out; have := S2.out; have := S3.out; have := S4.out; have := S5.out; have := S6.out; have := S7.out; omega)))
  have Ox0' := Lib.hid (Ox0.out.below (hb.mono (by have := S1.out; have := S2.out; have := S3.out; have := S4.out; have := S5.out; have := S6.out; have := S7.out; omega)))
  have Og' := Lib.hid (Og.out.below (hb.mono (by have := S1.out; have := S2.out; have := S3.out; have := S4.out; have := S5.out; have := S6.out; have := S7.out; omega)))
  clear Ow Ox0 Og
  have Ow := Ow'
  have Ox0 := Ox0'
  have Og := Og'
  clear Ow' Ox0' Og'
  have S8 := Lib.hid hb.size
  have B8 := Lib.hid (B7.out.trans (hb.mono B7.out.size))
  have BXx0' := Lib.hid (BXx0.out.trans (hb.mono BXx0.out.size))
  clear BXx0
  have BXx0 := BXx0'
  clear BXx0'
  clear hb B7
  obtain ⟨kx0_0, kx0_1⟩ := (hclx0 _ BXx0.out).two
  go_wp2_with fail
  clear kx0_0 kx0_1
  refine (markBraid_any _ _ _ _ _ _ Ox0.out (by omega) (by have := sr.out; have := s0.out; omega) (by have := S1.out; have := S2.out; have := S3.out; have := S4.out; have := S5.out; have := S6.out; have := S7.out; have := S8.out; omega)).mono ?_
  rintro e w9 ⟨rfl, ho, hb⟩
  have Ow' := Lib.hid (Ow.out.only hb (by have := S1.out; have := S2.out; have := S3.out; have := S4.out; have := S5.out; have := S6.out; have := S7.out; have := S8.out; omega) (by have := S1.out; have := S2.out; have := S3.out; have := S4.out; have := S5.out; have := S6.out; have := S7.out; have := S8.out; omega))
  have Og' := Lib.hid (Og.out.only hb (by have := S1.out; have := S2.out; have := S3.out; have := S4.out; have := S5.out; have := S6.out; have := S7.out; have := S8.out; omega) (by have := S1.out; have := S2.out; have := S3.out; have := S4.out; have := S5.out; have := S6.out; have := S7.out; have := S8.out; omega))
  clear Ow Og
  have Ow := Ow'
  have Og := Og'
  clear Ow' Og'
  have S9 : Hid (we.heap.size ≤ w9.heap.size) := hb.size
  have B9 := Lib.hid (B8.out.trans (hb.below (by have := S1.out; have := S2.out; have := S3.out; have := S4.out; have := S5.out; have := S6.out; have := S7.out; have := S8.out; have := S9.out; omega) (by have := S1.out; have := S2.out; have := S3.out; have := S4.out; have := S5.out; have := S6.out; have := S7.out; have := S8.out; have := S9.out; omega)))
  clear Ox0
  have Ox0 := Lib.hid ho
  clear ho hb B8
  clear Ox0
  go_wp2_with fail
  refine (eqEventS_any _ _ (braidL b) (braidL b) _ _ ((RdS.of_own Ev.len Og.out).more (by have := S1.out; have := S2.out; have := S3.out; have := S4.out; have := S5.out; have := S6.out; have := S7.out; have := S8.out; have := S9.out; omega)) ((RdS.of_own Ev.len Ow.out).more (by have := S1.out; have := S2.out; have := S3.out; have := S4.out; have := S5.out; have := S6.out; have := S7.out; have := S8.out; have := S9.out; omega)) (Nat.le_refl _)).mono ?_
  rintro e w10 ⟨rfl, hb⟩
  have Ow' := Lib.hid (Ow.out.below (hb.mono (by have := S1.out; have := S2.out; have := S3.out; have := S4.out; have := S5.out; have := S6.out; have := S7.out; have := S8.out; have := S9.out; omega)))
  have Og' := Lib.hid (Og.out.below (hb.mono (by have := S1.out; have := S2.out; have := S3.out; have := S4.out; have := S5.out; have := S6.out; have := S7.out; have := S8.out; have := S9.out; omega)))
  clear Ow Og
  have Ow := Ow'
  have Og := Og'
  clear Ow' Og'
  have S10 := Lib.hid hb.size
  have B10 := Lib.hid (B9.out.trans (hb.mono B9.out.size))
  clear hb B9
  go_wp2_with fail
  refine (markE_any _ _ _ _ _ _ _ Og.out (by omega) (by have := sr.out; have := s0.out; omega)).mono ?_
  rintro e w11 ⟨rfl, ho, hb⟩
  have Ow' := Lib.hid (Ow.out.only hb (by have := S1.out; have := S2.out; have := S3.out; have := S4.out; have := S5.out; have := S6.out; have := S7.out; have := S8.out; have := S9.out; have := S10.out; omega) (by have := S1.out; have := S2.out; have := S3.out; have := S4.out; have := S5.out; have := S6.out; have := S7.out; have := S8.out; have := S9.out; have := S10.out; omega))
  clear Ow
  have Ow := Ow'
  clear Ow'
  have S11 : Hid (w10.heap.size ≤ w11.heap.size) := hb.size
  have B11 := Lib.hid (B10.out.trans (hb.below (by have := S1.out; have := S2.out; have := S3.out; have := S4.out; have := S5.out; have := S6.out; have := S7.out; have := S8.out; have := S9.out; have := S10.out; have := S11.out; omega) (by have := S1.out; have := S2.out; have := S3.out; have := S4.out; have := S5.out; have := S6.out; have := S7.out; have := S8.out; have := S9.out; have := S10.out; have := S11.out; omega)))
  clear Og
  have Og := Lib.hid ho
  clear ho hb B10
  go_wp2_with fail
  refine (heldE_any _ _ _ _ _ _ Og.out (by omega) (by have := sr.out; have := s0.out; omega)).mono ?_
  rintro e w' ⟨rfl, rfl⟩
  obtain ⟨k0_0, k0_1⟩ := (hcl0 _ B11.out).two
  go_wp2_with fail
  clear k0_0 k0_1
  refine (toBraid_any _ b _ ((H0.out.below (((Below.refl _ _).alloc (by first | exact Nat.le_refl _ | (simp; done) | (simp; omega)) _).trans (B11.out.mono (by simp)))).more (((Below.refl _ _).alloc (by first | exact Nat.le_refl _ | (simp; done) | (simp; omega)) _).trans (B11.out.mono (by simp))).size) s0.out).mono ?_
  rintro e w12 ⟨vz0, rfl, ho, hb⟩
  obtain ⟨sz0, rfl, ho⟩ := ho
  obtain ⟨Az0, cz0, rfl, -⟩ := ho.cells
  have Ow' := Lib.hid (Ow.out.below (hb.mono (by have := S1.out; have := S2.out; have := S3.out; have := S4.out; have := S5.out; have := S6.out; have := S7.out; have := S8.out; have := S9.out; have := S10.out; have := S11.out; omega)))
  have Og' := Lib.hid (Og.out.below (hb.mono (by have := S1.out; have := S2.out; have := S3.out; have := S4.out; have := S5.out; have := S6.out; have := S7.out; have := S8.out; have := S9.out; have := S10.out; have := S11.out; omega)))
  clear Ow Og
  have Ow := Ow'
  have Og := Og'
  clear Ow' Og'
  have S12 := Lib.hid hb.size
  have B12 := Lib.hid (B11.out.trans (hb.mono B11.out.size))
  have Oz0 : Hid (OwBr _ _ _ _ (b)) := ⟨_, rfl, ho⟩
  clear ho
  clear hb B11
  go_wp2_with fail
  refine (implBraidEvents_any _ b _ ((RdBr.of_own Oz0.out).more (by have := S1.out; have := S2.out; have := S3.out; have := S4.out; have := S5.out; have := S6.out; have := S7.out; have := S8.out; have := S9.out; have := S10.out; have := S11.out; have := S12.out; omega)) s0.out).mono ?_
  rintro e w13 ⟨vh, rfl, ho, hb⟩
  have Ow' := Lib.hid (Ow.out.below (hb.mono (by have := S1.out; have := S2.out; have := S3.out; have := S4.out; have := S5.out; have := S6.out; have := S7.out; have := S8.out; have := S9.out; have := S10.out; have := S11.out; have := S12.out; omega)))
  have Og' := Lib.hid (Og.out.below (hb.mono (by have := S1.out; have := S2.out; have := S3.out; have := S4.out; have := S5.out; have := S6.out; have := S7.out; have := S8.out; have := S9.out; have := S10.out; have := S11.out; have := S12.out; omega)))
  have Oz0' := Lib.hid (Oz0.out.below (hb.mono (by have := S1.out; have := S2.out; have := S3.out; have := S4.out; have := S5.out; have := S6.out; have := S7.out; have := S8.out; have := S9.out; have := S10.out; have := S11.out; have := S12.out; omega)))
  clear Ow Og Oz0
  have Ow := Ow'
  have Og := Og'
  have Oz0 := Oz0'
  clear Ow' Og' Oz0'
  have S13 := Lib.hid hb.size
  have B13 := Lib.hid (B12.out.trans (hb.mono B12.out.size))
  have Oh := Lib.hid ho
  clear ho
  clear hb B12
  clear Oz0
  go_wp2_with fail
  refine (eqEventS_any _ _ (braidL b) (braidL b) _ _ ((RdS.of_own Ev.len Oh.out).more (by have := S1.out; have := S2.out; have := S3.out; have := S4.out; have := S5.out; have := S6.out; have := S7.out; have := S8.out; have := S9.out; have := S10.out; have := S11.out; have := S12.out; have := S13.out; omega)) ((RdS.of_own Ev.len Ow.out).more (by have := S1.out; have := S2.out; have := S3.out; have := S4.out; have := S5.out; have := S6.out; have := S7.out; have := S8.out; have := S9.out; have := S10.out; have := S11.out; have := S12.out; have := S13.out; omega)) (Nat.le_refl _)).mono ?_
  rintro e w14 ⟨rfl, hb⟩
  have Ow' := Lib.hid (Ow.out.below (hb.mono (by have := S1.out; have := S2.out; have := S3.out; have := S4.out; have := S5.out; have := S6.out; have := S7.out; have := S8.out; have := S9.out; have := S10.out; have := S11.out; have := S12.out; have := S13.out; omega)))
  have Og' := Lib.hid (Og.out.below (hb.mono (by have := S1.out; have := S2.out; have := S3.out; have := S4.out; have := S5.out; have := S6.out; have := S7.out; have := S8.out; have := S9.out; have := S10.out; have := S11.out; have := S12.out; have := S13.out; omega)))
  have Oh' := Lib.hid (Oh.out.below (hb.mono (by have := S1.out; have := S2.out; have := S3.out; have := S4.out; have := S5.out; have := S6.out; have := S7.out; have := S8.out; have := S9.out; have := S10.out; have := S11.out; have := S12.out; have := S13.out; omega)))
  clear Ow Og Oh
  have Ow := Ow'
  have Og := Og'
  have Oh := Oh'
  clear Ow' Og' Oh'
  have S14 := Lib.hid hb.size
  have B14 := Lib.hid (B13.out.trans (hb.mono B13.out.size))
  clear hb B13
  clear Oh
  clear Ow
  go_wp2_with fail
  refine (heldE_any _ _ _ _ _ _ Og.out (by omega) (by have := sr.out; have := s0.out; omega)).mono ?_
  rintro e w' ⟨rfl, rfl⟩
  go_wp2
  go_ret
  exact ⟨rfl, (((Below.refl _ _).alloc (by first | exact Nat.le_refl _ | (simp; done) | (simp; omega)) _).trans (B14.out.mono (by simp)))⟩

set_option maxRecDepth 100000 in
theorem FnExactBraidEvents.walk {H : Type} {enc : TypeId × Value → H} {base : Nat} {d0 : DataW H} {p0 : List MemPlace} (W : World) (v0 : Value) (o0 : Value.okWide Try.prog W .any base 42 v0)
    (h0 : DataW.Trod enc Try.prog W 0 (fun _ => true) true 42 v0 d0 p0) : Calls Try.prog 9 #[v0] W fun e W' => e = .returned (.bool true) ∧ Below W.heap.size W W' := by
  obtain ⟨b, k0, _⟩ := open_braid o0 h0
  exact FnExactBraidEvents.core v0 b W k0

namespace FnExactBraidEvents
theorem own : ownKnob Try.prog.godebug = none := by kernel_rfl
theorem laidOut : laidOutB Try.prog = true := by kernel_rfl

set_option maxRecDepth 100000 in
theorem lifted (os : Os) (started : os.Started) (H : Type) (enc : TypeId × Value → H) :
    ReturnsInHanded {} Try.checked os 9 .any (Rows.fnExactBraidEventsSpec.pre6 enc Try.prog Try.f9 Rows.fnExactBraidEventsRow.domain false) (Rows.fnExactBraidEventsSpec.post enc Try.prog Try.f9 false true false false) := by
  refine returnsInHanded_of_change (C := Try.checked) own started (by kernel_rfl) Try.func9
    (ChangeSpec.witness6 (enc := enc) (C := Try.checked) false ⟨#[], #[.agg #[.int .i64 0, .slice none 0 0]], []⟩ 8 (by kernel_rfl) (by kernel_rfl) (by kernel_rfl) (by kernel_rfl)) ?_
  intro W base args ds gs before hval0 hW hcnd _
  have hval : ∀ (j : Nat) t v, Try.f9.params[j]? = some t → args[j]? = some v → Value.okWide Try.prog W .any base t v := hval0
  have hW' := hW
  obtain ⟨p, q, hA0, hV, rfl, hfz, hnd⟩ := hW
  have hA : DataW.TrodAll enc Try.prog W 0 (fun _ => true) true Try.f9.params.toList args.toList ds p := hA0
  rw [Try.params9] at hA hval
  obtain ⟨v0, vs0, d0, ds0, p0, q0, hargs, rfl, rfl, h0, r0⟩ := trodAll_cons hA
  obtain ⟨rfl, rfl, rfl⟩ := trodAll_nil r0
  obtain rfl : args = #[v0] := by cases args; simp_all
  obtain ⟨rfl, rfl⟩ := trodVars_none hV
  have k0 := h0
  have lt0 : ∀ x ∈ p0, x.block < W.heap.size := by obtain ⟨m, hm⟩ := k0; exact DataW.trod_lt m _ _ _ hm
  clear hA0 hval0
  refine (walk W v0 (hval 0 _ v0 rfl rfl) h0).mono fun e W' ⟨he, bel⟩ => ?_
  subst he
  exact ⟨_, rfl, _, _, _, [], _, [], hW', trodAll_mk1 (shut_bool Try.underlying4 _), (trodAll_cons_mk (Below.trod laidOut (by kernel_rfl) (of_decide_eq_true (by kernel_rfl)) k0 bel lt0) trodAll_mk0), rfl, bel.frame _, fun h => by cases h⟩

theorem over : Rows.fnExactBraidEventsRow.holds Try.pinned (OpenSpec.ofChange Rows.fnExactBraidEventsSpec) :=
  OpenClaim.holds_of_wide 9 Try.f9 rfl rfl rfl rfl rfl rfl rfl ⟨rfl, rfl, rfl, rfl, rfl⟩ rfl rfl rfl rfl rfl (by kernel_rfl) Try.func9 (by kernel_rfl)
    (of_decide_eq_true (by kernel_rfl)) (by unfold Func.isWrapper; first | (rw [if_pos (by decide +kernel)]; kernel_rfl) | (rw [if_neg (by decide +kernel)]; exact ⟨rfl, rfl⟩))
    (fun os started H enc _ => lifted os started H enc)

theorem proved : Rows.FnExactBraidEventsSaid := over
end FnExactBraidEvents

end Go.Proofs.Ytmgicdcpeblpnaa
