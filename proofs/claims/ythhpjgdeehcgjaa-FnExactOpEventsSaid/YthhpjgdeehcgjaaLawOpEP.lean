/-
  The program's OpEvents returns what the reference's returns, for every machine and every operation; no condition.
-/
import Derived.Test.YthhpjgdeehcgjaaPk18
import Derived.Test.YthhpjgdeehcgjaaPk17
import Derived.Test.YthhpjgdeehcgjaaMark
import Derived.Test.YthhpjgdeehcgjaaPk1
import Derived.Test.YthhpjgdeehcgjaaEv
import Derived.Deep.RegionHeld3
import Derived.Deep.RegionWith
import Derived.Deep.Cut
namespace Go.Proofs.Ythhpjgdeehcgjaa
set_option linter.unusedVariables false
set_option linter.unusedSimpArgs false
open Go.ChangeShapes Go.WideShapes Go.ChangeAt Go.RowKit
open Go.ChangeMaps (open_string shut_string)

set_option maxHeartbeats 8000000 in
set_option maxRecDepth 100000 in
theorem FnExactOpEvents.core (v0 : Value) (m : Mc) (x : Opr) (W : World) (hl0 : RdM W W.heap.size v0 m) :
    Calls Try.prog 3 #[v0, x.v] W fun e W' => e = .returned (.bool true) ∧ Below W.heap.size W W' := by
  obtain ⟨AF0, cF0, AG0, cG0, AC0, cC0, AI0, cI0, AD0, cD0, rfl⟩ := RdM.shape hl0
  have h0 := hl0
  clear hl0
  have H0 : Hid (RdM W W.heap.size _ m) := h0
  clear h0
  have hcl0 : ∀ w1, Below (((W.alloc (.cells #[.int .i64 (m).wd, .int .i64 (m).rk, .slice AF0 (m).fr.length cF0, .slice AG0 (m).bk.length cG0, .slice AC0 (m).cs.length cC0, .slice AI0 (m).ls.length cI0, .slice AD0 (m).dr.length cD0] 27)).alloc (.cells #[.int .i64 x.k, .int .i64 x.d, .int .i64 x.fb, .int .i64 x.fa, .int .i64 x.tb, .int .i64 x.ta, .int .i64 x.c, .int .i64 x.r] 31)) : World).heap.size ((W.alloc (.cells #[.int .i64 (m).wd, .int .i64 (m).rk, .slice AF0 (m).fr.length cF0, .slice AG0 (m).bk.length cG0, .slice AC0 (m).cs.length cC0, .slice AI0 (m).ls.length cI0, .slice AD0 (m).dr.length cD0] 27)).alloc (.cells #[.int .i64 x.k, .int .i64 x.d, .int .i64 x.fb, .int .i64 x.fa, .int .i64 x.tb, .int .i64 x.ta, .int .i64 x.c, .int .i64 x.r] 31)) w1 → CellsAt w1 (W.heap.size) 0 [.int .i64 (m).wd, .int .i64 (m).rk, .slice AF0 (m).fr.length cF0, .slice AG0 (m).bk.length cG0, .slice AC0 (m).cs.length cC0, .slice AI0 (m).ls.length cI0, .slice AD0 (m).dr.length cD0] := by
    intro w1 hb1 j u hu
    rw [hb1.cell (by simp; try omega)]
    rcases j with _ | _ | _ | _ | _ | _ | _ | j <;> simp at hu <;> subst hu <;> simp [go_sem]
  have hcx : ∀ w1, Below (((W.alloc (.cells #[.int .i64 (m).wd, .int .i64 (m).rk, .slice AF0 (m).fr.length cF0, .slice AG0 (m).bk.length cG0, .slice AC0 (m).cs.length cC0, .slice AI0 (m).ls.length cI0, .slice AD0 (m).dr.length cD0] 27)).alloc (.cells #[.int .i64 x.k, .int .i64 x.d, .int .i64 x.fb, .int .i64 x.fa, .int .i64 x.tb, .int .i64 x.ta, .int .i64 x.c, .int .i64 x.r] 31)) : World).heap.size ((W.alloc (.cells #[.int .i64 (m).wd, .int .i64 (m).rk, .slice AF0 (m).fr.length cF0, .slice AG0 (m).bk.length cG0, .slice AC0 (m).cs.length cC0, .slice AI0 (m).ls.length cI0, .slice AD0 (m).dr.length cD0] 27)).alloc (.cells #[.int .i64 x.k, .int .i64 x.d, .int .i64 x.fb, .int .i64 x.fa, .int .i64 x.tb, .int .i64 x.ta, .int .i64 x.c, .int .i64 x.r] 31)) w1 → CellsAt w1 (W.heap.size + 1) 0 x.cells := by
    intro w1 hb1 j u hu
    have hq : CellsAt ((W.alloc (.cells #[.int .i64 (m).wd, .int .i64 (m).rk, .slice AF0 (m).fr.length cF0, .slice AG0 (m).bk.length cG0, .slice AC0 (m).cs.length cC0, .slice AI0 (m).ls.length cI0, .slice AD0 (m).dr.length cD0] 27)).alloc (.cells #[.int .i64 x.k, .int .i64 x.d, .int .i64 x.fb, .int .i64 x.fa, .int .i64 x.tb, .int .i64 x.ta, .int .i64 x.c, .int .i64 x.r] 31)) ((W.alloc (.cells #[.int .i64 (m).wd, .int .i64 (m).rk, .slice AF0 (m).fr.length cF0, .slice AG0 (m).bk.length cG0, .slice AC0 (m).cs.length cC0, .slice AI0 (m).ls.length cI0, .slice AD0 (m).dr.length cD0] 27)).heap.size) 0 x.cells := CellsAt.of_alloc (us := x.cells)
    rw [World.size_alloc] at hq
    rw [hb1.cell (p := ⟨W.heap.size + 1, 0 + j, none⟩) (by simp)]
    exact hq j u hu
  obtain ⟨z0, e0⟩ : ∃ z, szM 1048576 m = z := ⟨_, rfl⟩
  have E0 := Lib.hid e0
  clear e0
  by_cases p0 : 0 ≤ z0
  case neg =>
    have q0 : z0 < 0 := by omega
    clear p0
    go_enter Try.func3, Try.ntmps3
    go_wp2_with fail
    refine (szMachine_any _ m _ ((H0.out.below ((Below.refl _ _).alloc (by first | exact Nat.le_refl _ | (simp; done) | (simp; omega)) _ |>.alloc (by first | exact Nat.le_refl _ | (simp; done) | (simp; omega)) _)).more ((Below.refl _ _).alloc (by first | exact Nat.le_refl _ | (simp; done) | (simp; omega)) _ |>.alloc (by first | exact Nat.le_refl _ | (simp; done) | (simp; omega)) _).size)).mono ?_
    rintro e w1 ⟨rfl, hb⟩
    rw [E0.out]
    have S1 := Lib.hid hb.size
    have B1 := Lib.hid (hb)
    clear hb
    go_wp2
    go_ret
    exact ⟨rfl, (((Below.refl _ _).alloc (by first | exact Nat.le_refl _ | (simp; done) | (simp; omega)) _ |>.alloc (by first | exact Nat.le_refl _ | (simp; done) | (simp; omega)) _).trans (B1.out.mono (by first | (simp; done) | (simp; omega))))⟩
  obtain ⟨f0, u0⟩ := szM_pos E0.out p0
  have s0 := Lib.hid f0
  clear f0
  have sr : Hid ((oeR m x).length ≤ 1048576) := oeR_len s0.out x
  go_enter Try.func3, Try.ntmps3
  go_wp2_with fail
  refine (szMachine_any _ m _ ((H0.out.below ((Below.refl _ _).alloc (by first | exact Nat.le_refl _ | (simp; done) | (simp; omega)) _ |>.alloc (by first | exact Nat.le_refl _ | (simp; done) | (simp; omega)) _)).more ((Below.refl _ _).alloc (by first | exact Nat.le_refl _ | (simp; done) | (simp; omega)) _ |>.alloc (by first | exact Nat.le_refl _ | (simp; done) | (simp; omega)) _).size)).mono ?_
  rintro e w1 ⟨rfl, hb⟩
  rw [E0.out]
  have S1 := Lib.hid hb.size
  have B1 := Lib.hid (hb)
  clear hb
  have HU := Lib.hid (show Below W.heap.size W w1 from (((Below.refl _ _).alloc (by first | exact Nat.le_refl _ | (simp; done) | (simp; omega)) _ |>.alloc (by first | exact Nat.le_refl _ | (simp; done) | (simp; omega)) _).trans (B1.out.mono (by first | (simp; done) | (simp; omega)))))
  go_upto_region 5 with fail
  go_cut [6, 7] from 16 (fun sv sc wc => ∃ (vv : Value) (wy : World), wy = wc ∧ sv = vv ∧ sc = .int .i64 (oeC m x) ∧ Hid (OwC wy w1.heap.size wy.heap.size 80 6 vv (oeR m x).length (vE (oeR m x))) ∧ Hid (Below w1.heap.size w1 wy))
  case first =>
    obtain ⟨k0_0, k0_1, k0_2, k0_3, k0_4, k0_5, k0_6⟩ := (hcl0 _ B1.out).seven
    obtain ⟨y0, y1, y2, y3, y4, y5, y6, y7⟩ := (hcx _ B1.out).eight
    go_region_with ((first | (go_at_call 7; refine (toMachine_any _ m _ (by first | exact (H0.out.below (HU.out.trans (HBo.out.mono HU.out.size))).more (HU.out.trans (HBo.out.mono HU.out.size)).size | exact (H0.out.below HU.out.drew).more HU.out.drew.size) s0.out).mono ?_; rintro e wm ⟨vm, rfl, hom, hbm⟩; obtain ⟨AFm, cFm, AGm, cGm, ACm, cCm, AIm, cIm, ADm, cDm, rfl⟩ := OwM.shape hom; have HBm : Hid (Below w1.heap.size w1 wm) := Lib.hid (by first | exact HBo.out.trans (hbm.mono HBo.out.size) | exact (Below.refl _ _).drew.trans hbm); have HRm := Lib.hid (RdM.of_own hom); obtain ⟨y0, y1, y2, y3, y4, y5, y6, y7⟩ := (hcx _ (B1.out.trans (HBm.out.mono B1.out.size))).eight; clear hom hbm) | (go_at_call 8; refine (toOp_any x _).mono ?_; rintro e wo ⟨rfl, hbo⟩; have HBo : Hid (Below w1.heap.size w1 wo) := Lib.hid (by first | exact HBm.out.trans (hbo.mono HBm.out.size) | exact (Below.refl _ _).drew.trans hbo); have HNo := Lib.hid hbo; obtain ⟨k0_0, k0_1, k0_2, k0_3, k0_4, k0_5, k0_6⟩ := (hcl0 _ (B1.out.trans (HBo.out.mono B1.out.size))).seven; clear hbo) | (go_at_call 6; refine (specOpEvents_any _ m x _ (by first | exact HRm.out | exact (HRm.out.below HNo.out).more HNo.out.size) s0.out).mono ?_; rintro e ws ⟨vs, rfl, hos, hbs⟩; have HSB : Hid (Below w1.heap.size w1 ws) := Lib.hid (by first | exact HBm.out.trans (hbs.mono HBm.out.size) | exact HBo.out.trans (hbs.mono HBo.out.size)); have HSO : Hid (OwC ws w1.heap.size ws.heap.size 80 6 vs (oeR m x).length (vE (oeR m x))) := Lib.hid (hos.wide (by first | exact HBm.out.size | exact HBo.out.size) (Nat.le_refl _)); clear hos hbs)))
    all_goals
      go_wp2
      go_meet
      case rel => exact ⟨_, _, rfl, rfl, rfl, HSO, HSB⟩
  case rest =>
  obtain ⟨vw, w3, hww, rfl, rfl, hos, hbs⟩ := hcut
  subst hww
  have hb := hbs.out
  have ho := hos.out
  clear hbs hos HU
  have S2 : Hid (w1.heap.size ≤ w1.heap.size) := Nat.le_refl _
  have B2 := B1
  have S3 := Lib.hid hb.size
  have B3 := Lib.hid (B2.out.trans (hb.mono B2.out.size))
  have Ow := Lib.hid ho
  clear ho
  clear hb B2 B1
  obtain ⟨k0_0, k0_1, k0_2, k0_3, k0_4, k0_5, k0_6⟩ := (hcl0 _ B3.out).seven
  go_wp2_with fail
  clear k0_0 k0_1 k0_2 k0_3 k0_4 k0_5 k0_6
  refine (toMachine_any _ m _ ((H0.out.below (((Below.refl _ _).alloc (by first | exact Nat.le_refl _ | (simp; done) | (simp; omega)) _ |>.alloc (by first | exact Nat.le_refl _ | (simp; done) | (simp; omega)) _).trans (B3.out.mono (by first | (simp; done) | (simp; omega))))).more (((Below.refl _ _).alloc (by first | exact Nat.le_refl _ | (simp; done) | (simp; omega)) _ |>.alloc (by first | exact Nat.le_refl _ | (simp; done) | (simp; omega)) _).trans (B3.out.mono (by first | (simp; done) | (simp; omega)))).size) s0.out).mono ?_
  rintro e w4 ⟨vx0, rfl, ho, hb⟩
  obtain ⟨AFx0, cFx0, AGx0, cGx0, ACx0, cCx0, AIx0, cIx0, ADx0, cDx0, rfl⟩ := OwM.shape ho
  have Ow' := Lib.hid (Ow.out.below (hb.mono (by have := S1.out; have := S2.out; have := S3.out; omega)))
  clear Ow
  have Ow := Ow'
  clear Ow'
  have S4 := Lib.hid hb.size
  have B4 := Lib.hid (B3.out.trans (hb.mono B3.out.size))
  have Ox0 : Hid (OwM _ _ _ _ (m)) := ho
  clear ho
  clear hb B3
  have hb : Below w4.heap.size w4 (w4.alloc (.cells #[.int .i64 (m).wd, .int .i64 (m).rk, .slice AFx0 (m).fr.length cFx0, .slice AGx0 (m).bk.length cGx0, .slice ACx0 (m).cs.length cCx0, .slice AIx0 (m).ls.length cIx0, .slice ADx0 (m).dr.length cDx0] 39)) := (Below.refl _ _).alloc (Nat.le_refl _) _
  have Ow' := Lib.hid (Ow.out.below (hb.mono (by have := S1.out; have := S2.out; have := S3.out; have := S4.out; omega)))
  have Ox0' := Lib.hid (Ox0.out.below (hb.mono (by have := S1.out; have := S2.out; have := S3.out; have := S4.out; omega)))
  clear Ow Ox0
  have Ow := Ow'
  have Ox0 := Ox0'
  clear Ow' Ox0'
  have S5 := Lib.hid hb.size
  have B5 := Lib.hid (B4.out.trans (hb.mono B4.out.size))
  clear hb B4
  have hqx0 : CellsAt (w4.alloc (.cells #[.int .i64 (m).wd, .int .i64 (m).rk, .slice AFx0 (m).fr.length cFx0, .slice AGx0 (m).bk.length cGx0, .slice ACx0 (m).cs.length cCx0, .slice AIx0 (m).ls.length cIx0, .slice ADx0 (m).dr.length cDx0] 39)) w4.heap.size 0 [.int .i64 (m).wd, .int .i64 (m).rk, .slice AFx0 (m).fr.length cFx0, .slice AGx0 (m).bk.length cGx0, .slice ACx0 (m).cs.length cCx0, .slice AIx0 (m).ls.length cIx0, .slice ADx0 (m).dr.length cDx0] := by
    intro j u hu
    rcases j with _ | _ | _ | _ | _ | _ | _ | j <;> simp at hu <;> subst hu <;> simp [go_sem]
  have hclx0 : ∀ w1, Kept w4.heap.size (w4.alloc (.cells #[.int .i64 (m).wd, .int .i64 (m).rk, .slice AFx0 (m).fr.length cFx0, .slice AGx0 (m).bk.length cGx0, .slice ACx0 (m).cs.length cCx0, .slice AIx0 (m).ls.length cIx0, .slice ADx0 (m).dr.length cDx0] 39)) w1 → CellsAt w1 w4.heap.size 0 [.int .i64 (m).wd, .int .i64 (m).rk, .slice AFx0 (m).fr.length cFx0, .slice AGx0 (m).bk.length cGx0, .slice ACx0 (m).cs.length cCx0, .slice AIx0 (m).ls.length cIx0, .slice ADx0 (m).dr.length cDx0] := fun w1 hb1 => hb1.cells hqx0
  clear hqx0
  have BXx0 : Hid (Kept w4.heap.size (w4.alloc (.cells #[.int .i64 (m).wd, .int .i64 (m).rk, .slice AFx0 (m).fr.length cFx0, .slice AGx0 (m).bk.length cGx0, .slice ACx0 (m).cs.length cCx0, .slice AIx0 (m).ls.length cIx0, .slice ADx0 (m).dr.length cDx0] 39)) (w4.alloc (.cells #[.int .i64 (m).wd, .int .i64 (m).rk, .slice AFx0 (m).fr.length cFx0, .slice AGx0 (m).bk.length cGx0, .slice ACx0 (m).cs.length cCx0, .slice AIx0 (m).ls.length cIx0, .slice ADx0 (m).dr.length cDx0] 39))) := Kept.refl (by simp)
  have Tx0 : Hid (w4.heap.size < (w4.alloc (.cells #[.int .i64 (m).wd, .int .i64 (m).rk, .slice AFx0 (m).fr.length cFx0, .slice AGx0 (m).bk.length cGx0, .slice ACx0 (m).cs.length cCx0, .slice AIx0 (m).ls.length cIx0, .slice ADx0 (m).dr.length cDx0] 39)).heap.size) := BXx0.out.lt
  obtain ⟨W5, hW5⟩ : ∃ X : World, X = w4.alloc (.cells #[.int .i64 (m).wd, .int .i64 (m).rk, .slice AFx0 (m).fr.length cFx0, .slice AGx0 (m).bk.length cGx0, .slice ACx0 (m).cs.length cCx0, .slice AIx0 (m).ls.length cIx0, .slice ADx0 (m).dr.length cDx0] 39) := ⟨_, rfl⟩
  go_upto_region 7 with fail
  rw [← hW5] at hclx0 BXx0 Tx0 S5 B5 Ow Ox0 ⊢
  clear hW5
  go_cut [9, 10] from 31 (fun sv sc wc => ∃ (vv : Value) (wy : World), wy = wc ∧ sv = vv ∧ sc = .int .i64 (oeC m x) ∧ Hid (OwC wy W5.heap.size wy.heap.size 80 6 vv (oeR m x).length (vE (oeR m x))) ∧ Hid (Below W5.heap.size W5 wy))
  case first =>
    obtain ⟨kx0_0, kx0_1, kx0_2, kx0_3, kx0_4, kx0_5, kx0_6⟩ := (hclx0 _ BXx0.out).seven
    obtain ⟨y0, y1, y2, y3, y4, y5, y6, y7⟩ := (hcx _ B5.out).eight
    go_region_with ((first | (go_at_call 8; refine (toOp_any x _).mono ?_; rintro e wo ⟨rfl, hbo⟩; have HBo : Hid (Below W5.heap.size W5 wo) := Lib.hid ((Below.refl _ _).drew.trans hbo); obtain ⟨kx0_0, kx0_1, kx0_2, kx0_3, kx0_4, kx0_5, kx0_6⟩ := (hclx0 _ (BXx0.out.next HBo.out)).seven; clear hbo) | (go_at_call 9; refine (implOpEvents_any _ m x _ (((RdM.of_own Ox0.out).below (HBo.out.mono (by have := S1.out; have := S2.out; have := S3.out; have := S4.out; have := S5.out; have := Tx0.out; omega))).more (by have := S1.out; have := S2.out; have := S3.out; have := S4.out; have := S5.out; have := Tx0.out; have := HBo.out.size; omega)) s0.out).mono ?_; rintro e ws ⟨vs, rfl, hos, hbs⟩; have HSB : Hid (Below W5.heap.size W5 ws) := Lib.hid (HBo.out.trans (hbs.mono HBo.out.size)); have HSO : Hid (OwC ws W5.heap.size ws.heap.size 80 6 vs (oeR m x).length (vE (oeR m x))) := Lib.hid (hos.wide HBo.out.size (Nat.le_refl _)); clear hos hbs)))
    all_goals
      go_wp2
      go_meet
      case rel => exact ⟨_, _, rfl, rfl, rfl, HSO, HSB⟩
  case rest =>
  obtain ⟨vg, w6, hww, rfl, rfl, hos, hbs⟩ := hcut
  subst hww
  have hb := hbs.out
  have ho := hos.out
  clear hbs hos
  have Ow' := Lib.hid (Ow.out.below (hb.mono (by have := S1.out; have := S2.out; have := S3.out; have := S4.out; have := S5.out; have := Tx0.out; omega)))
  have Ox0' := Lib.hid (Ox0.out.below (hb.mono (by have := S1.out; have := S2.out; have := S3.out; have := S4.out; have := S5.out; have := Tx0.out; omega)))
  clear Ow Ox0
  have Ow := Ow'
  have Ox0 := Ox0'
  clear Ow' Ox0'
  have S6 := Lib.hid hb.size
  have B6 := Lib.hid (B5.out.trans (hb.mono B5.out.size))
  have BXx0' := Lib.hid (BXx0.out.next hb)
  clear BXx0
  have BXx0 := BXx0'
  clear BXx0'
  have Og := Lib.hid ho
  clear ho
  clear hb B5
  go_wp2_with fail
  refine (eqEventS_any _ _ (oeR m x) (oeR m x) _ _ ((RdS.of_own Ev.len Og.out).more (by have := S1.out; have := S2.out; have := S3.out; have := S4.out; have := S5.out; have := S6.out; have := Tx0.out; omega)) ((RdS.of_own Ev.len Ow.out).more (by have := S1.out; have := S2.out; have := S3.out; have := S4.out; have := S5.out; have := S6.out; have := Tx0.out; omega)) (Nat.le_refl _)).mono ?_
  rintro e w7 ⟨rfl, hb⟩
  have Ow' := Lib.hid (Ow.out.below (hb.mono (by have := S1.out; have := S2.out; have := S3.out; have := S4.out; have := S5.out; have := S6.out; have := Tx0.out; omega)))
  have Ox0' := Lib.hid (Ox0.out.below (hb.mono (by have := S1.out; have := S2.out; have := S3.out; have := S4.out; have := S5.out; have := S6.out; have := Tx0.out; omega)))
  have Og' := Lib.hid (Og.out.below (hb.mono (by have := S1.out; have := S2.out; have := S3.out; have := S4.out; have := S5.out; have := S6.out; have := Tx0.out; omega)))
  clear Ow Ox0 Og
  have Ow := Ow'
  have Ox0 := Ox0'
  have Og := Og'
  clear Ow' Ox0' Og'
  have S7 := Lib.hid hb.size
  have B7 := Lib.hid (B6.out.trans (hb.mono B6.out.size))
  have BXx0' := Lib.hid (BXx0.out.next hb)
  clear BXx0
  have BXx0 := BXx0'
  clear BXx0'
  clear hb B6
  obtain ⟨k0_0, k0_1, k0_2, k0_3, k0_4, k0_5, k0_6⟩ := (hcl0 _ B7.out).seven
  obtain ⟨kx0_0, kx0_1, kx0_2, kx0_3, kx0_4, kx0_5, kx0_6⟩ := (hclx0 _ BXx0.out).seven
  go_wp2
  go_region_held3 (fun w' => w'.cell? ⟨W.heap.size, 0, none⟩ = some (.int .i64 (m).wd) ∧ w'.cell? ⟨W.heap.size, 1, none⟩ = some (.int .i64 (m).rk) ∧ w'.cell? ⟨W.heap.size, 2, none⟩ = some (.slice AF0 (m).fr.length cF0) ∧ w'.cell? ⟨W.heap.size, 3, none⟩ = some (.slice AG0 (m).bk.length cG0) ∧ w'.cell? ⟨W.heap.size, 4, none⟩ = some (.slice AC0 (m).cs.length cC0) ∧ w'.cell? ⟨W.heap.size, 5, none⟩ = some (.slice AI0 (m).ls.length cI0) ∧ w'.cell? ⟨W.heap.size, 6, none⟩ = some (.slice AD0 (m).dr.length cD0) ∧ w'.cell? ⟨w4.heap.size, 0, none⟩ = some (.int .i64 (m).wd) ∧ w'.cell? ⟨w4.heap.size, 1, none⟩ = some (.int .i64 (m).rk) ∧ w'.cell? ⟨w4.heap.size, 2, none⟩ = some (.slice AFx0 (m).fr.length cFx0) ∧ w'.cell? ⟨w4.heap.size, 3, none⟩ = some (.slice AGx0 (m).bk.length cGx0) ∧ w'.cell? ⟨w4.heap.size, 4, none⟩ = some (.slice ACx0 (m).cs.length cCx0) ∧ w'.cell? ⟨w4.heap.size, 5, none⟩ = some (.slice AIx0 (m).ls.length cIx0) ∧ w'.cell? ⟨w4.heap.size, 6, none⟩ = some (.slice ADx0 (m).dr.length cDx0)) (first | exact ⟨k0_0, k0_1, k0_2, k0_3, k0_4, k0_5, k0_6, kx0_0, kx0_1, kx0_2, kx0_3, kx0_4, kx0_5, kx0_6⟩ | exact ⟨m0_0, m0_1, m0_2, m0_3, m0_4, m0_5, m0_6, mx0_0, mx0_1, mx0_2, mx0_3, mx0_4, mx0_5, mx0_6⟩ | exact ⟨q0_0, q0_1, q0_2, q0_3, q0_4, q0_5, q0_6, qx0_0, qx0_1, qx0_2, qx0_3, qx0_4, qx0_5, qx0_6⟩)
    (first
      | (go_at_call 7; refine (toMachine_any _ m _ ((H0.out.below (((Below.refl _ _).alloc (by first | exact Nat.le_refl _ | (simp; done) | (simp; omega)) _ |>.alloc (by first | exact Nat.le_refl _ | (simp; done) | (simp; omega)) _).trans (B7.out.mono (by first | (simp; done) | (simp; omega)))).drew).more ((((Below.refl _ _).alloc (by first | exact Nat.le_refl _ | (simp; done) | (simp; omega)) _ |>.alloc (by first | exact Nat.le_refl _ | (simp; done) | (simp; omega)) _).trans (B7.out.mono (by first | (simp; done) | (simp; omega)))).drew).size) s0.out).mono ?_; rintro e wy ⟨vy, rfl, ho, hb⟩; obtain ⟨AFy, cFy, AGy, cGy, ACy, cCy, AIy, cIy, ADy, cDy, rfl⟩ := OwM.shape ho; have hba : Below w7.heap.size w7 wy := ((Below.refl _ _).drew).trans hb; have Oy : Hid (OwM _ _ _ _ (m)) := ho; have hbi := Lib.hid hba; have hb := hba; clear hba; have hbm := hb; have hbn := hb; clear hb; have hb := hbn; obtain ⟨m0_0, m0_1, m0_2, m0_3, m0_4, m0_5, m0_6⟩ := (hcl0 _ (B7.out.trans (hbm.mono (by have := B7.out.size; omega)))).seven; obtain ⟨mx0_0, mx0_1, mx0_2, mx0_3, mx0_4, mx0_5, mx0_6⟩ := (hclx0 _ (BXx0.out.next hbm)).seven)
      | (go_at_call 11; refine (eqMachine_same _ _ (m) _ ((RdM.of_own Ox0.out).below (hbm.mono (by have := S1.out; have := S2.out; have := S3.out; have := S4.out; have := S5.out; have := S6.out; have := S7.out; have := Tx0.out; omega)) |>.more (by have := S1.out; have := S2.out; have := S3.out; have := S4.out; have := S5.out; have := S6.out; have := S7.out; have := Tx0.out; have := hbm.size; omega)) (RdM.of_own Oy.out)).mono ?_; rintro e we0 ⟨rfl, hbe⟩; have hbq : Below w7.heap.size w7 we0 := hbm.trans (hbe.mono hbm.size); obtain ⟨q0_0, q0_1, q0_2, q0_3, q0_4, q0_5, q0_6⟩ := (hcl0 _ (B7.out.trans (hbq.mono (by have := B7.out.size; omega)))).seven; obtain ⟨qx0_0, qx0_1, qx0_2, qx0_3, qx0_4, qx0_5, qx0_6⟩ := (hclx0 _ (BXx0.out.next hbq)).seven))
  clear k0_0 k0_1 k0_2 k0_3 k0_4 k0_5 k0_6
  clear kx0_0 kx0_1 kx0_2 kx0_3 kx0_4 kx0_5 kx0_6
  have hb := hbq
  clear hbq hbm hbe Oy hbn hbi
  have Ow' := Lib.hid (Ow.out.below (hb.mono (by have := S1.out; have := S2.out; have := S3.out; have := S4.out; have := S5.out; have := S6.out; have := S7.out; have := Tx0.out; omega)))
  have Ox0' := Lib.hid (Ox0.out.below (hb.mono (by have := S1.out; have := S2.out; have := S3.out; have := S4.out; have := S5.out; have := S6.out; have := S7.out; have := Tx0.out; omega)))
  have Og' := Lib.hid (Og.out.below (hb.mono (by have := S1.out; have := S2.out; have := S3.out; have := S4.out; have := S5.out; have := S6.out; have := S7.out; have := Tx0.out; omega)))
  clear Ow Ox0 Og
  have Ow := Ow'
  have Ox0 := Ox0'
  have Og := Og'
  clear Ow' Ox0' Og'
  have S8 := Lib.hid hb.size
  have B8 := Lib.hid (B7.out.trans (hb.mono B7.out.size))
  have BXx0' := Lib.hid (BXx0.out.next hb)
  clear BXx0
  have BXx0 := BXx0'
  clear BXx0'
  clear hb B7
  have Mx0 := Lib.hid (mkM_le E0.out p0)
  have Mx0a := Mx0.out.1
  have Mx0b := Mx0.out.2
  obtain ⟨kx0_0, kx0_1, kx0_2, kx0_3, kx0_4, kx0_5, kx0_6⟩ := (hclx0 _ BXx0.out).seven
  go_wp2_with fail
  clear kx0_0 kx0_1 kx0_2 kx0_3 kx0_4 kx0_5 kx0_6
  refine (markMachine_any _ m _ _ _ Ox0.out (by have := S1.out; have := S2.out; have := S3.out; have := S4.out; have := S5.out; have := S6.out; have := S7.out; have := S8.out; have := Tx0.out; omega) Mx0.out.1 Mx0.out.2).mono ?_
  rintro e w9 ⟨rfl, hb⟩
  have Ow' := Lib.hid (Ow.out.only hb (by have := S1.out; have := S2.out; have := S3.out; have := S4.out; have := S5.out; have := S6.out; have := S7.out; have := S8.out; have := Tx0.out; omega) (by have := S1.out; have := S2.out; have := S3.out; have := S4.out; have := S5.out; have := S6.out; have := S7.out; have := S8.out; have := Tx0.out; omega))
  have Og' := Lib.hid (Og.out.only hb (by have := S1.out; have := S2.out; have := S3.out; have := S4.out; have := S5.out; have := S6.out; have := S7.out; have := S8.out; have := Tx0.out; omega) (by have := S1.out; have := S2.out; have := S3.out; have := S4.out; have := S5.out; have := S6.out; have := S7.out; have := S8.out; have := Tx0.out; omega))
  clear Ow Og
  have Ow := Ow'
  have Og := Og'
  clear Ow' Og'
  have BXx0' := Lib.hid (BXx0.out.only hb (by first | (left; have := S1.out; have := S2.out; have := S3.out; have := S4.out; have := S5.out; have := S6.out; have := S7.out; have := S8.out; have := Tx0.out; omega) | (right; have := S1.out; have := S2.out; have := S3.out; have := S4.out; have := S5.out; have := S6.out; have := S7.out; have := S8.out; have := Tx0.out; omega)))
  clear BXx0
  have BXx0 := BXx0'
  clear BXx0'
  have S9 : Hid (we0.heap.size ≤ w9.heap.size) := hb.size
  have B9 := Lib.hid (B8.out.trans (hb.below (by have := S1.out; have := S2.out; have := S3.out; have := S4.out; have := S5.out; have := S6.out; have := S7.out; have := S8.out; have := S9.out; have := Tx0.out; omega) (by have := S1.out; have := S2.out; have := S3.out; have := S4.out; have := S5.out; have := S6.out; have := S7.out; have := S8.out; have := S9.out; have := Tx0.out; omega)))
  clear Ox0 hb B8
  go_wp2_with fail
  refine (eqEventS_any _ _ (oeR m x) (oeR m x) _ _ ((RdS.of_own Ev.len Og.out).more (by have := S1.out; have := S2.out; have := S3.out; have := S4.out; have := S5.out; have := S6.out; have := S7.out; have := S8.out; have := S9.out; have := Tx0.out; omega)) ((RdS.of_own Ev.len Ow.out).more (by have := S1.out; have := S2.out; have := S3.out; have := S4.out; have := S5.out; have := S6.out; have := S7.out; have := S8.out; have := S9.out; have := Tx0.out; omega)) (Nat.le_refl _)).mono ?_
  rintro e w10 ⟨rfl, hb⟩
  have Ow' := Lib.hid (Ow.out.below (hb.mono (by have := S1.out; have := S2.out; have := S3.out; have := S4.out; have := S5.out; have := S6.out; have := S7.out; have := S8.out; have := S9.out; have := Tx0.out; omega)))
  have Og' := Lib.hid (Og.out.below (hb.mono (by have := S1.out; have := S2.out; have := S3.out; have := S4.out; have := S5.out; have := S6.out; have := S7.out; have := S8.out; have := S9.out; have := Tx0.out; omega)))
  clear Ow Og
  have Ow := Ow'
  have Og := Og'
  clear Ow' Og'
  have S10 := Lib.hid hb.size
  have B10 := Lib.hid (B9.out.trans (hb.mono B9.out.size))
  clear hb B9
  go_wp2_with fail
  refine (markE_any _ _ _ _ _ _ _ Og.out (by omega) (by have := sr.out; have := s0.out; omega)).mono ?_
  rintro e w11 ⟨rfl, ho, hb⟩
  have Ow' := Lib.hid (Ow.out.only hb (by have := S1.out; have := S2.out; have := S3.out; have := S4.out; have := S5.out; have := S6.out; have := S7.out; have := S8.out; have := S9.out; have := S10.out; have := Tx0.out; omega) (by have := S1.out; have := S2.out; have := S3.out; have := S4.out; have := S5.out; have := S6.out; have := S7.out; have := S8.out; have := S9.out; have := S10.out; have := Tx0.out; omega))
  clear Ow
  have Ow := Ow'
  clear Ow'
  have S11 : Hid (w10.heap.size ≤ w11.heap.size) := hb.size
  have B11 := Lib.hid (B10.out.trans (hb.below (by have := S1.out; have := S2.out; have := S3.out; have := S4.out; have := S5.out; have := S6.out; have := S7.out; have := S8.out; have := S9.out; have := S10.out; have := S11.out; have := Tx0.out; omega) (by have := S1.out; have := S2.out; have := S3.out; have := S4.out; have := S5.out; have := S6.out; have := S7.out; have := S8.out; have := S9.out; have := S10.out; have := S11.out; have := Tx0.out; omega)))
  clear Og
  have Og := Lib.hid ho
  clear ho hb B10
  go_wp2_with fail
  refine (heldE_any _ _ _ _ _ _ Og.out (by omega) (by have := sr.out; have := s0.out; omega)).mono ?_
  rintro e w' ⟨rfl, rfl⟩
  have HU := Lib.hid (show Below W.heap.size W w11 from (((Below.refl _ _).alloc (by first | exact Nat.le_refl _ | (simp; done) | (simp; omega)) _ |>.alloc (by first | exact Nat.le_refl _ | (simp; done) | (simp; omega)) _).trans (B11.out.mono (by first | (simp; done) | (simp; omega)))))
  go_upto_region 24 with fail
  go_cut [14, 15] from 79 (fun sv sc wc => ∃ (vv : Value) (wy : World), wy = wc ∧ sv = vv ∧ sc = .int .i64 (oeC m x) ∧ Hid (OwC wy w11.heap.size wy.heap.size 80 6 vv (oeR m x).length (vE (oeR m x))) ∧ Hid (Below w11.heap.size w11 wy))
  case first =>
    obtain ⟨k0_0, k0_1, k0_2, k0_3, k0_4, k0_5, k0_6⟩ := (hcl0 _ B11.out).seven
    obtain ⟨y0, y1, y2, y3, y4, y5, y6, y7⟩ := (hcx _ B11.out).eight
    go_region_with ((first | (go_at_call 7; refine (toMachine_any _ m _ (by first | exact (H0.out.below (HU.out.trans (HBo.out.mono HU.out.size))).more (HU.out.trans (HBo.out.mono HU.out.size)).size | exact (H0.out.below HU.out.drew).more HU.out.drew.size) s0.out).mono ?_; rintro e wm ⟨vm, rfl, hom, hbm⟩; obtain ⟨AFm, cFm, AGm, cGm, ACm, cCm, AIm, cIm, ADm, cDm, rfl⟩ := OwM.shape hom; have HBm : Hid (Below w11.heap.size w11 wm) := Lib.hid (by first | exact HBo.out.trans (hbm.mono HBo.out.size) | exact (Below.refl _ _).drew.trans hbm); have HRm := Lib.hid (RdM.of_own hom); obtain ⟨y0, y1, y2, y3, y4, y5, y6, y7⟩ := (hcx _ (B11.out.trans (HBm.out.mono B11.out.size))).eight; clear hom hbm) | (go_at_call 8; refine (toOp_any x _).mono ?_; rintro e wo ⟨rfl, hbo⟩; have HBo : Hid (Below w11.heap.size w11 wo) := Lib.hid (by first | exact HBm.out.trans (hbo.mono HBm.out.size) | exact (Below.refl _ _).drew.trans hbo); have HNo := Lib.hid hbo; obtain ⟨k0_0, k0_1, k0_2, k0_3, k0_4, k0_5, k0_6⟩ := (hcl0 _ (B11.out.trans (HBo.out.mono B11.out.size))).seven; clear hbo) | (go_at_call 9; refine (implOpEvents_any _ m x _ (by first | exact HRm.out | exact (HRm.out.below HNo.out).more HNo.out.size) s0.out).mono ?_; rintro e ws ⟨vs, rfl, hos, hbs⟩; have HSB : Hid (Below w11.heap.size w11 ws) := Lib.hid (by first | exact HBm.out.trans (hbs.mono HBm.out.size) | exact HBo.out.trans (hbs.mono HBo.out.size)); have HSO : Hid (OwC ws w11.heap.size ws.heap.size 80 6 vs (oeR m x).length (vE (oeR m x))) := Lib.hid (hos.wide (by first | exact HBm.out.size | exact HBo.out.size) (Nat.le_refl _)); clear hos hbs)))
    all_goals
      go_wp2
      go_meet
      case rel => exact ⟨_, _, rfl, rfl, rfl, HSO, HSB⟩
  case rest =>
  obtain ⟨vh, w13, hww, rfl, rfl, hos, hbs⟩ := hcut
  subst hww
  have hb := hbs.out
  have ho := hos.out
  clear hbs hos HU
  have S12 : Hid (w11.heap.size ≤ w11.heap.size) := Nat.le_refl _
  have B12 := B11
  have Ow' := Lib.hid (Ow.out.below (hb.mono (by have := S1.out; have := S2.out; have := S3.out; have := S4.out; have := S5.out; have := S6.out; have := S7.out; have := S8.out; have := S9.out; have := S10.out; have := S11.out; have := S12.out; have := Tx0.out; omega)))
  have Og' := Lib.hid (Og.out.below (hb.mono (by have := S1.out; have := S2.out; have := S3.out; have := S4.out; have := S5.out; have := S6.out; have := S7.out; have := S8.out; have := S9.out; have := S10.out; have := S11.out; have := S12.out; have := Tx0.out; omega)))
  clear Ow Og
  have Ow := Ow'
  have Og := Og'
  clear Ow' Og'
  have S13 := Lib.hid hb.size
  have B13 := Lib.hid (B12.out.trans (hb.mono B12.out.size))
  have Oh := Lib.hid ho
  clear ho
  clear hb B12 B11
  go_wp2_with fail
  refine (eqEventS_any _ _ (oeR m x) (oeR m x) _ _ ((RdS.of_own Ev.len Oh.out).more (by have := S1.out; have := S2.out; have := S3.out; have := S4.out; have := S5.out; have := S6.out; have := S7.out; have := S8.out; have := S9.out; have := S10.out; have := S11.out; have := S12.out; have := S13.out; have := Tx0.out; omega)) ((RdS.of_own Ev.len Ow.out).more (by have := S1.out; have := S2.out; have := S3.out; have := S4.out; have := S5.out; have := S6.out; have := S7.out; have := S8.out; have := S9.out; have := S10.out; have := S11.out; have := S12.out; have := S13.out; have := Tx0.out; omega)) (Nat.le_refl _)).mono ?_
  rintro e w14 ⟨rfl, hb⟩
  have Ow' := Lib.hid (Ow.out.below (hb.mono (by have := S1.out; have := S2.out; have := S3.out; have := S4.out; have := S5.out; have := S6.out; have := S7.out; have := S8.out; have := S9.out; have := S10.out; have := S11.out; have := S12.out; have := S13.out; have := Tx0.out; omega)))
  have Og' := Lib.hid (Og.out.below (hb.mono (by have := S1.out; have := S2.out; have := S3.out; have := S4.out; have := S5.out; have := S6.out; have := S7.out; have := S8.out; have := S9.out; have := S10.out; have := S11.out; have := S12.out; have := S13.out; have := Tx0.out; omega)))
  have Oh' := Lib.hid (Oh.out.below (hb.mono (by have := S1.out; have := S2.out; have := S3.out; have := S4.out; have := S5.out; have := S6.out; have := S7.out; have := S8.out; have := S9.out; have := S10.out; have := S11.out; have := S12.out; have := S13.out; have := Tx0.out; omega)))
  clear Ow Og Oh
  have Ow := Ow'
  have Og := Og'
  have Oh := Oh'
  clear Ow' Og' Oh'
  have S14 := Lib.hid hb.size
  have B14 := Lib.hid (B13.out.trans (hb.mono B13.out.size))
  clear hb B13
  clear Oh
  clear Ow
  go_wp2_with fail
  refine (heldE_any _ _ _ _ _ _ Og.out (by omega) (by have := sr.out; have := s0.out; omega)).mono ?_
  rintro e w' ⟨rfl, rfl⟩
  go_wp2
  go_ret
  exact ⟨rfl, (((Below.refl _ _).alloc (by first | exact Nat.le_refl _ | (simp; done) | (simp; omega)) _ |>.alloc (by first | exact Nat.le_refl _ | (simp; done) | (simp; omega)) _).trans (B14.out.mono (by first | (simp; done) | (simp; omega))))⟩

set_option maxRecDepth 100000 in
theorem FnExactOpEvents.walk {H : Type} {enc : TypeId × Value → H} {base : Nat} {d0 : DataW H} {p0 : List MemPlace} {d1 : DataW H} {p1 : List MemPlace} (W : World) (v0 : Value) (v1 : Value) (o0 : Value.okWide Try.prog W .any base 27 v0) (o1 : Value.okWide Try.prog W .any base 31 v1)
    (h0 : DataW.Trod enc Try.prog W 0 (fun _ => true) true 27 v0 d0 p0) (h1 : DataW.Trod enc Try.prog W 0 (fun _ => true) true 31 v1 d1 p1) : Calls Try.prog 3 #[v0, v1] W fun e W' => e = .returned (.bool true) ∧ Below W.heap.size W W' := by
  obtain ⟨m, k0, _⟩ := open_machine o0 h0
  obtain ⟨x, rfl⟩ := open_op o1 h1
  exact FnExactOpEvents.core v0 m x W k0

namespace FnExactOpEvents
theorem own : ownKnob Try.prog.godebug = none := by kernel_rfl
theorem laidOut : laidOutB Try.prog = true := by kernel_rfl

set_option maxRecDepth 100000 in
theorem lifted (os : Os) (started : os.Started) (H : Type) (enc : TypeId × Value → H) :
    ReturnsInHanded {} Try.checked os 3 .any (Rows.fnExactOpEventsSpec.pre6 enc Try.prog Try.f3 Rows.fnExactOpEventsRow.domain false) (Rows.fnExactOpEventsSpec.post enc Try.prog Try.f3 false true false false) := by
  refine returnsInHanded_of_change (C := Try.checked) own started (by kernel_rfl) Try.func3
    (ChangeSpec.witness6 (enc := enc) (C := Try.checked) false ⟨#[], #[.agg #[.int .i64 0, .int .i64 0, .slice none 0 0, .slice none 0 0, .slice none 0 0, .slice none 0 0, .slice none 0 0], .agg #[.int .i64 0, .int .i64 0, .int .i64 0, .int .i64 0, .int .i64 0, .int .i64 0, .int .i64 0, .int .i64 0]], []⟩ 8 (by kernel_rfl) (by kernel_rfl) (by kernel_rfl) (by kernel_rfl)) ?_
  intro W base args ds gs before hval0 hW hcnd _
  have hval : ∀ (j : Nat) t v, Try.f3.params[j]? = some t → args[j]? = some v → Value.okWide Try.prog W .any base t v := hval0
  have hW' := hW
  obtain ⟨p, q, hA0, hV, rfl, hfz, hnd⟩ := hW
  have hA : DataW.TrodAll enc Try.prog W 0 (fun _ => true) true Try.f3.params.toList args.toList ds p := hA0
  rw [Try.params3] at hA hval
  obtain ⟨v0, vs0, d0, ds0, p0, q0, hargs, rfl, rfl, h0, r0⟩ := trodAll_cons hA
  obtain ⟨v1, vs1, d1, ds1, p1, q1, rfl, rfl, rfl, h1, r1⟩ := trodAll_cons r0
  obtain ⟨rfl, rfl, rfl⟩ := trodAll_nil r1
  obtain rfl : args = #[v0, v1] := by cases args; simp_all
  obtain ⟨rfl, rfl⟩ := trodVars_none hV
  have k0 := h0
  have lt0 : ∀ x ∈ p0, x.block < W.heap.size := by obtain ⟨m, hm⟩ := k0; exact DataW.trod_lt m _ _ _ hm
  have k1 := h1
  have lt1 : ∀ x ∈ p1, x.block < W.heap.size := by obtain ⟨m, hm⟩ := k1; exact DataW.trod_lt m _ _ _ hm
  clear hA0 hval0
  refine (walk W v0 v1 (hval 0 _ v0 rfl rfl) (hval 1 _ v1 rfl rfl) h0 h1).mono fun e W' ⟨he, bel⟩ => ?_
  subst he
  exact ⟨_, rfl, _, _, _, [], _, [], hW', trodAll_mk1 (shut_bool Try.underlying4 _), (trodAll_cons_mk (Below.trod laidOut (by kernel_rfl) (of_decide_eq_true (by kernel_rfl)) k0 bel lt0) (trodAll_cons_mk (Below.trod laidOut (by kernel_rfl) (of_decide_eq_true (by kernel_rfl)) k1 bel lt1) trodAll_mk0)), rfl, bel.frame _, fun h => by cases h⟩

theorem over : Rows.fnExactOpEventsRow.holds Try.pinned (OpenSpec.ofChange Rows.fnExactOpEventsSpec) :=
  OpenClaim.holds_of_wide 3 Try.f3 rfl rfl rfl rfl rfl rfl rfl ⟨rfl, rfl, rfl, rfl, rfl⟩ rfl rfl rfl rfl rfl (by kernel_rfl) Try.func3 (by kernel_rfl)
    (of_decide_eq_true (by kernel_rfl)) (by unfold Func.isWrapper; first | (rw [if_pos (by decide +kernel)]; kernel_rfl) | (rw [if_neg (by decide +kernel)]; exact ⟨rfl, rfl⟩))
    (fun os started H enc _ => lifted os started H enc)

theorem proved : Rows.FnExactOpEventsSaid := over
end FnExactOpEvents

end Go.Proofs.Ythhpjgdeehcgjaa
