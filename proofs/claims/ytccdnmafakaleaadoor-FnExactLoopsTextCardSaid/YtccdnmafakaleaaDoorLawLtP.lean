/-
  The program's LoopsText returns what the reference's returns, for every machine.
-/
import Derived.Test.YtccdnmafakaleaaDoorPk2
import Derived.Test.YtccdnmafakaleaaDoorPk3
import Derived.Test.YtccdnmafakaleaaDoorNest
import Derived.Test.YtccdnmafakaleaaDoorKept
import Derived.Test.YtccdnmafakaleaaDoorCards
import Derived.Test.YtccdnmafakaleaaDoorTie
import Derived.ProofKit
import Derived.LaidMore
import Derived.OpenShut
import Derived.Stop.Joined
import Derived.Lib.LaidTab
import Derived.SevenTiedAt
import Derived.Deep.RegionHeld3
namespace Go.Proofs.YtccdnmafakaleaaDoor
set_option linter.unusedVariables false
set_option linter.unusedSimpArgs false
open Go.ChangeShapes Go.WideShapes Go.ChangeAt Go.RowKit

attribute [local go_sem] strV
set_option maxHeartbeats 8000000 in
set_option maxRecDepth 100000 in
theorem FnExactLoopsText.core (v0 : Value) (m : Mc) (W : World) (hl0 : RdM W W.heap.size v0 m) (ht : Lib.TabIs Tryd.prog W "internal/strconv.uint64pow10" .u64 Lib.pow10Tab) :
    Calls Tryd.prog 3 #[v0] W fun e W' => e = .returned (.bool true) ∧ Below W.heap.size W W' := by
  have HTI := Lib.hid (Lib.tabBelow_of_tabIs ht)
  clear ht
  obtain ⟨AF0, cF0, AG0, cG0, AC0, cC0, AI0, cI0, AD0, cD0, rfl⟩ := RdM.shape hl0
  have h0 := hl0
  clear hl0
  have H0 : Hid (RdM W W.heap.size _ m) := h0
  clear h0
  have hcl0 : ∀ w1, Below ((W.alloc (.cells #[.int .i64 (m).wd, .int .i64 (m).rk, .slice AF0 (m).fr.length cF0, .slice AG0 (m).bk.length cG0, .slice AC0 (m).cs.length cC0, .slice AI0 (m).ls.length cI0, .slice AD0 (m).dr.length cD0] 27)) : World).heap.size (W.alloc (.cells #[.int .i64 (m).wd, .int .i64 (m).rk, .slice AF0 (m).fr.length cF0, .slice AG0 (m).bk.length cG0, .slice AC0 (m).cs.length cC0, .slice AI0 (m).ls.length cI0, .slice AD0 (m).dr.length cD0] 27)) w1 → CellsAt w1 (W.heap.size) 0 [.int .i64 (m).wd, .int .i64 (m).rk, .slice AF0 (m).fr.length cF0, .slice AG0 (m).bk.length cG0, .slice AC0 (m).cs.length cC0, .slice AI0 (m).ls.length cI0, .slice AD0 (m).dr.length cD0] := by
    intro w1 hb1 j u hu
    rw [hb1.cell (by simp; try omega)]
    rcases j with _ | _ | _ | _ | _ | _ | _ | j <;> simp at hu <;> subst hu <;> simp [go_sem]
  obtain ⟨z0, e0⟩ : ∃ z, szM 1048576 m = z := ⟨_, rfl⟩
  have E0 := Lib.hid e0
  clear e0
  by_cases p0 : 0 ≤ z0
  case neg =>
    have q0 : z0 < 0 := by omega
    clear p0
    go_enter Tryd.func3, Tryd.ntmps3
    go_wp2_with fail
    refine (szMachine_any _ m _ ((H0.out.below ((Below.refl _ _).alloc (by first | exact Nat.le_refl _ | (simp; done) | (simp; omega)) _)).more ((Below.refl _ _).alloc (by first | exact Nat.le_refl _ | (simp; done) | (simp; omega)) _).size)).mono ?_
    rintro e w1 ⟨rfl, hb⟩
    rw [E0.out]
    have S1 := Lib.hid hb.size
    have B1 := Lib.hid (hb)
    clear hb
    go_wp2
    go_ret
    exact ⟨rfl, (((Below.refl _ _).alloc (by first | exact Nat.le_refl _ | (simp; done) | (simp; omega)) _).trans (B1.out.mono (by first | (simp; done) | (simp; omega))))⟩
  obtain ⟨f0, u0⟩ := szM_pos E0.out p0
  have s0 := Lib.hid f0
  clear f0
  go_enter Tryd.func3, Tryd.ntmps3
  go_wp2_with fail
  refine (szMachine_any _ m _ ((H0.out.below ((Below.refl _ _).alloc (by first | exact Nat.le_refl _ | (simp; done) | (simp; omega)) _)).more ((Below.refl _ _).alloc (by first | exact Nat.le_refl _ | (simp; done) | (simp; omega)) _).size)).mono ?_
  rintro e w1 ⟨rfl, hb⟩
  rw [E0.out]
  have S1 := Lib.hid hb.size
  have B1 := Lib.hid (hb)
  clear hb
  obtain ⟨k0_0, k0_1, k0_2, k0_3, k0_4, k0_5, k0_6⟩ := (hcl0 _ B1.out).seven
  go_wp2_with fail
  clear k0_0 k0_1 k0_2 k0_3 k0_4 k0_5 k0_6
  refine (toMachine_any _ m _ ((H0.out.below (((Below.refl _ _).alloc (by first | exact Nat.le_refl _ | (simp; done) | (simp; omega)) _).trans (B1.out.mono (by first | (simp; done) | (simp; omega))))).more (((Below.refl _ _).alloc (by first | exact Nat.le_refl _ | (simp; done) | (simp; omega)) _).trans (B1.out.mono (by first | (simp; done) | (simp; omega)))).size) s0.out).mono ?_
  rintro e w2 ⟨va0, rfl, ho, hb⟩
  obtain ⟨AFa0, cFa0, AGa0, cGa0, ACa0, cCa0, AIa0, cIa0, ADa0, cDa0, rfl⟩ := OwM.shape ho
  have S2 := Lib.hid hb.size
  have B2 := Lib.hid (B1.out.trans (hb.mono B1.out.size))
  have Oa0 : Hid (OwM _ _ _ _ (m)) := ho
  clear ho
  clear hb B1
  go_wp2_with fail
  refine (specLoopsText_any _ m _ ((RdM.of_own Oa0.out).more (by have := S1.out; have := S2.out; omega)) s0.out okI_of).mono ?_
  rintro e w3 ⟨rfl, hb⟩
  have Oa0' := Lib.hid (Oa0.out.below (hb.mono (by have := S1.out; have := S2.out; omega)))
  clear Oa0
  have Oa0 := Oa0'
  clear Oa0'
  have S3 := Lib.hid hb.size
  have B3 := Lib.hid (B2.out.trans (hb.mono B2.out.size))
  clear hb B2
  clear Oa0
  obtain ⟨k0_0, k0_1, k0_2, k0_3, k0_4, k0_5, k0_6⟩ := (hcl0 _ B3.out).seven
  go_wp2_with fail
  clear k0_0 k0_1 k0_2 k0_3 k0_4 k0_5 k0_6
  refine (toMachine_any _ m _ ((H0.out.below (((Below.refl _ _).alloc (by first | exact Nat.le_refl _ | (simp; done) | (simp; omega)) _).trans (B3.out.mono (by first | (simp; done) | (simp; omega))))).more (((Below.refl _ _).alloc (by first | exact Nat.le_refl _ | (simp; done) | (simp; omega)) _).trans (B3.out.mono (by first | (simp; done) | (simp; omega)))).size) s0.out).mono ?_
  rintro e w4 ⟨vx0, rfl, ho, hb⟩
  obtain ⟨AFx0, cFx0, AGx0, cGx0, ACx0, cCx0, AIx0, cIx0, ADx0, cDx0, rfl⟩ := OwM.shape ho
  have S4 := Lib.hid hb.size
  have B4 := Lib.hid (B3.out.trans (hb.mono B3.out.size))
  have Ox0 : Hid (OwM _ _ _ _ (m)) := ho
  clear ho
  clear hb B3
  have hb : Below w4.heap.size w4 (w4.alloc (.cells #[.int .i64 (m).wd, .int .i64 (m).rk, .slice AFx0 (m).fr.length cFx0, .slice AGx0 (m).bk.length cGx0, .slice ACx0 (m).cs.length cCx0, .slice AIx0 (m).ls.length cIx0, .slice ADx0 (m).dr.length cDx0] 33)) := (Below.refl _ _).alloc (Nat.le_refl _) _
  have Ox0' := Lib.hid (Ox0.out.below (hb.mono (by have := S1.out; have := S2.out; have := S3.out; have := S4.out; omega)))
  clear Ox0
  have Ox0 := Ox0'
  clear Ox0'
  have S5 := Lib.hid hb.size
  have B5 := Lib.hid (B4.out.trans (hb.mono B4.out.size))
  clear hb B4
  have hqx0 : CellsAt (w4.alloc (.cells #[.int .i64 (m).wd, .int .i64 (m).rk, .slice AFx0 (m).fr.length cFx0, .slice AGx0 (m).bk.length cGx0, .slice ACx0 (m).cs.length cCx0, .slice AIx0 (m).ls.length cIx0, .slice ADx0 (m).dr.length cDx0] 33)) w4.heap.size 0 [.int .i64 (m).wd, .int .i64 (m).rk, .slice AFx0 (m).fr.length cFx0, .slice AGx0 (m).bk.length cGx0, .slice ACx0 (m).cs.length cCx0, .slice AIx0 (m).ls.length cIx0, .slice ADx0 (m).dr.length cDx0] := by
    intro j u hu
    rcases j with _ | _ | _ | _ | _ | _ | _ | j <;> simp at hu <;> subst hu <;> simp [go_sem]
  have hclx0 : ∀ w1, Kept w4.heap.size (w4.alloc (.cells #[.int .i64 (m).wd, .int .i64 (m).rk, .slice AFx0 (m).fr.length cFx0, .slice AGx0 (m).bk.length cGx0, .slice ACx0 (m).cs.length cCx0, .slice AIx0 (m).ls.length cIx0, .slice ADx0 (m).dr.length cDx0] 33)) w1 → CellsAt w1 w4.heap.size 0 [.int .i64 (m).wd, .int .i64 (m).rk, .slice AFx0 (m).fr.length cFx0, .slice AGx0 (m).bk.length cGx0, .slice ACx0 (m).cs.length cCx0, .slice AIx0 (m).ls.length cIx0, .slice ADx0 (m).dr.length cDx0] := fun w1 hb1 => hb1.cells hqx0
  clear hqx0
  have BXx0 : Hid (Kept w4.heap.size (w4.alloc (.cells #[.int .i64 (m).wd, .int .i64 (m).rk, .slice AFx0 (m).fr.length cFx0, .slice AGx0 (m).bk.length cGx0, .slice ACx0 (m).cs.length cCx0, .slice AIx0 (m).ls.length cIx0, .slice ADx0 (m).dr.length cDx0] 33)) (w4.alloc (.cells #[.int .i64 (m).wd, .int .i64 (m).rk, .slice AFx0 (m).fr.length cFx0, .slice AGx0 (m).bk.length cGx0, .slice ACx0 (m).cs.length cCx0, .slice AIx0 (m).ls.length cIx0, .slice ADx0 (m).dr.length cDx0] 33))) := Kept.refl (by simp)
  have Tx0 : Hid (w4.heap.size < (w4.alloc (.cells #[.int .i64 (m).wd, .int .i64 (m).rk, .slice AFx0 (m).fr.length cFx0, .slice AGx0 (m).bk.length cGx0, .slice ACx0 (m).cs.length cCx0, .slice AIx0 (m).ls.length cIx0, .slice ADx0 (m).dr.length cDx0] 33)).heap.size) := BXx0.out.lt
  go_wp2_with fail
  refine (implLoopsText_any _ m _ ((RdM.of_own Ox0.out).more (by have := S1.out; have := S2.out; have := S3.out; have := S4.out; have := S5.out; have := Tx0.out; omega)) s0.out (Lib.tabBelow_of_tabIs ((HTI.out.on (((Below.refl _ _).alloc (Nat.le_refl _) _).trans (B5.out.mono (by simp)))).here))).mono ?_
  rintro e w6 ⟨rfl, hb⟩
  have Ox0' := Lib.hid (Ox0.out.below (hb.mono (by have := S1.out; have := S2.out; have := S3.out; have := S4.out; have := S5.out; have := Tx0.out; omega)))
  clear Ox0
  have Ox0 := Ox0'
  clear Ox0'
  have S6 := Lib.hid hb.size
  have B6 := Lib.hid (B5.out.trans (hb.mono B5.out.size))
  have BXx0' := Lib.hid (BXx0.out.next hb)
  clear BXx0
  have BXx0 := BXx0'
  clear BXx0'
  clear hb B5
  obtain ⟨k0_0, k0_1, k0_2, k0_3, k0_4, k0_5, k0_6⟩ := (hcl0 _ B6.out).seven
  obtain ⟨kx0_0, kx0_1, kx0_2, kx0_3, kx0_4, kx0_5, kx0_6⟩ := (hclx0 _ BXx0.out).seven
  go_wp2
  go_region_held3 (fun w' => w'.cell? ⟨W.heap.size, 0, none⟩ = some (.int .i64 (m).wd) ∧ w'.cell? ⟨W.heap.size, 1, none⟩ = some (.int .i64 (m).rk) ∧ w'.cell? ⟨W.heap.size, 2, none⟩ = some (.slice AF0 (m).fr.length cF0) ∧ w'.cell? ⟨W.heap.size, 3, none⟩ = some (.slice AG0 (m).bk.length cG0) ∧ w'.cell? ⟨W.heap.size, 4, none⟩ = some (.slice AC0 (m).cs.length cC0) ∧ w'.cell? ⟨W.heap.size, 5, none⟩ = some (.slice AI0 (m).ls.length cI0) ∧ w'.cell? ⟨W.heap.size, 6, none⟩ = some (.slice AD0 (m).dr.length cD0) ∧ w'.cell? ⟨w4.heap.size, 0, none⟩ = some (.int .i64 (m).wd) ∧ w'.cell? ⟨w4.heap.size, 1, none⟩ = some (.int .i64 (m).rk) ∧ w'.cell? ⟨w4.heap.size, 2, none⟩ = some (.slice AFx0 (m).fr.length cFx0) ∧ w'.cell? ⟨w4.heap.size, 3, none⟩ = some (.slice AGx0 (m).bk.length cGx0) ∧ w'.cell? ⟨w4.heap.size, 4, none⟩ = some (.slice ACx0 (m).cs.length cCx0) ∧ w'.cell? ⟨w4.heap.size, 5, none⟩ = some (.slice AIx0 (m).ls.length cIx0) ∧ w'.cell? ⟨w4.heap.size, 6, none⟩ = some (.slice ADx0 (m).dr.length cDx0)) (first | exact ⟨k0_0, k0_1, k0_2, k0_3, k0_4, k0_5, k0_6, kx0_0, kx0_1, kx0_2, kx0_3, kx0_4, kx0_5, kx0_6⟩ | exact ⟨m0_0, m0_1, m0_2, m0_3, m0_4, m0_5, m0_6, mx0_0, mx0_1, mx0_2, mx0_3, mx0_4, mx0_5, mx0_6⟩ | exact ⟨q0_0, q0_1, q0_2, q0_3, q0_4, q0_5, q0_6, qx0_0, qx0_1, qx0_2, qx0_3, qx0_4, qx0_5, qx0_6⟩)
    (first
      | (go_at_call 7; refine (toMachine_any _ m _ ((H0.out.below (((Below.refl _ _).alloc (by first | exact Nat.le_refl _ | (simp; done) | (simp; omega)) _).trans (B6.out.mono (by first | (simp; done) | (simp; omega)))).drew).more ((((Below.refl _ _).alloc (by first | exact Nat.le_refl _ | (simp; done) | (simp; omega)) _).trans (B6.out.mono (by first | (simp; done) | (simp; omega)))).drew).size) s0.out).mono ?_; rintro e wy ⟨vy, rfl, ho, hb⟩; obtain ⟨AFy, cFy, AGy, cGy, ACy, cCy, AIy, cIy, ADy, cDy, rfl⟩ := OwM.shape ho; have hba : Below w6.heap.size w6 wy := ((Below.refl _ _).drew).trans hb; have Oy : Hid (OwM _ _ _ _ (m)) := ho; have hbi := Lib.hid hba; have hb := hba; clear hba; have hbm := hb; have hbn := hb; clear hb; have hb := hbn; obtain ⟨m0_0, m0_1, m0_2, m0_3, m0_4, m0_5, m0_6⟩ := (hcl0 _ (B6.out.trans (hbm.mono (by have := B6.out.size; omega)))).seven; obtain ⟨mx0_0, mx0_1, mx0_2, mx0_3, mx0_4, mx0_5, mx0_6⟩ := (hclx0 _ (BXx0.out.next hbm)).seven)
      | (go_at_call 9; refine (eqMachine_same _ _ (m) _ ((RdM.of_own Ox0.out).below (hbm.mono (by have := S1.out; have := S2.out; have := S3.out; have := S4.out; have := S5.out; have := S6.out; have := Tx0.out; omega)) |>.more (by have := S1.out; have := S2.out; have := S3.out; have := S4.out; have := S5.out; have := S6.out; have := Tx0.out; have := hbm.size; omega)) (RdM.of_own Oy.out)).mono ?_; rintro e we0 ⟨rfl, hbe⟩; have hbq : Below w6.heap.size w6 we0 := hbm.trans (hbe.mono hbm.size); obtain ⟨q0_0, q0_1, q0_2, q0_3, q0_4, q0_5, q0_6⟩ := (hcl0 _ (B6.out.trans (hbq.mono (by have := B6.out.size; omega)))).seven; obtain ⟨qx0_0, qx0_1, qx0_2, qx0_3, qx0_4, qx0_5, qx0_6⟩ := (hclx0 _ (BXx0.out.next hbq)).seven))
  clear k0_0 k0_1 k0_2 k0_3 k0_4 k0_5 k0_6
  clear kx0_0 kx0_1 kx0_2 kx0_3 kx0_4 kx0_5 kx0_6
  have hb := hbq
  clear hbq hbm hbe Oy hbn hbi
  have Ox0' := Lib.hid (Ox0.out.below (hb.mono (by have := S1.out; have := S2.out; have := S3.out; have := S4.out; have := S5.out; have := S6.out; have := Tx0.out; omega)))
  clear Ox0
  have Ox0 := Ox0'
  clear Ox0'
  have S7 := Lib.hid hb.size
  have B7 := Lib.hid (B6.out.trans (hb.mono B6.out.size))
  have BXx0' := Lib.hid (BXx0.out.next hb)
  clear BXx0
  have BXx0 := BXx0'
  clear BXx0'
  clear hb B6
  go_wp2
  go_ret
  exact ⟨rfl, (((Below.refl _ _).alloc (by first | exact Nat.le_refl _ | (simp; done) | (simp; omega)) _).trans (B7.out.mono (by first | (simp; done) | (simp; omega))))⟩

namespace FnExactLoopsText
theorem own : ownKnob Tryd.prog.godebug = none := by kernel_rfl
theorem laidOut : laidOutB Tryd.prog = true := by kernel_rfl
def laidL : List (String × DataW Unit) := [("math/bits.deBruijn32tab", Rows.laid_math_bits_deBruijn32tab), ("math/bits.deBruijn64tab", Rows.laid_math_bits_deBruijn64tab), ("internal/strconv.uint64pow10", Rows.laid_internal_strconv_uint64pow10)]
theorem tail' {P : Program} {x : String × DataW Unit} {r : List (String × DataW Unit)} {w : World} (h : laidMet P (x :: r) w) : laidMet P r w := by
  obtain ⟨ps, hv, hnd, hrows⟩ := h
  obtain ⟨n, d⟩ := x
  obtain ⟨g, t, cs, fuel, p, q, _, _, _, _, hq, rfl⟩ := hv
  exact ⟨q, hq, List.Nodup.sublist (List.sublist_append_right _ _) hnd, fun b off hm => hrows b off (List.mem_append_right _ hm)⟩
theorem of_laid {W : World} (h : laidMetH Tryd.prog laidL W) : Lib.TabIs Tryd.prog W "internal/strconv.uint64pow10" .u64 Lib.pow10Tab := by
  rw [MakeChecks.laidMetH_plain _ _ _ (by kernel_rfl)] at h
  have h2 : laidMet Tryd.prog [("internal/strconv.uint64pow10", Lib.tabData .u64 Lib.pow10Tab)] W := tail' (tail' h)
  exact Lib.tabIs_of_head (g := 0) (by kernel_rfl) (by kernel_rfl) Tryd.underlying167 Tryd.underlying130 (by kernel_rfl) (by kernel_rfl) h2
theorem door_met (os : Os) (args : Array Value) : laidMetH Tryd.prog laidL ((World.doorLaid Tryd.prog 400 os).forCall (fun _ _ => 0) ⟨#[], args, []⟩).memory :=
  laidMetH_of_parts3 (fuel := 8) (laidMet_of_run' 8 (by kernel_rfl) (by kernel_rfl)) (by kernel_rfl) (by kernel_rfl)

set_option maxRecDepth 100000 in
theorem lifted (os : Os) (started : os.Started) (H : Type) (enc : TypeId × Value → H) :
    ReturnsInHanded {} Tryd.checked os 3 .any (fun w args => (Rows.fnExactLoopsTextSpec.pre enc Tryd.prog Tryd.f3 [] false w args ∧ laidMetH Tryd.prog laidL w) ∧ sizedMet enc Tryd.prog Tryd.f3 (OpenSpec.ofChange Rows.fnExactLoopsTextSpec) false w args)
      (Rows.fnExactLoopsTextSpec.post enc Tryd.prog Tryd.f3 false true false false) := by
  refine returnsInHanded_of_change_and (C := Tryd.checked) (X := fun w _ => laidMetH Tryd.prog laidL w) (fun _ _ _ hh h => h.of_heap hh) own started (by kernel_rfl) Tryd.func3
    (ChangeSpec.witness_shaped (enc := enc) (C := Tryd.checked) (os := os) (X := fun w _ => laidMetH Tryd.prog laidL w) false (World.doorLaid Tryd.prog 400 os) #[.agg #[.int .i64 0, .int .i64 0, .slice none 0 0, .slice none 0 0, .slice none 0 0, .slice none 0 0, .slice none 0 0]] 8 rfl (World.shaped_of_RefB (by kernel_rfl) (by kernel_rfl)) (by kernel_rfl) (by kernel_rfl) (by kernel_rfl) (door_met os _)) ?_
  intro W base args ds gs before hval0 hW _ _ hL _
  have hval : ∀ (j : Nat) t v, Tryd.f3.params[j]? = some t → args[j]? = some v → Value.okWide Tryd.prog W .any base t v := hval0
  have hW' := hW
  obtain ⟨p, q, hA0, hV, rfl, hfz, hnd⟩ := hW
  have hA : DataW.TrodAll enc Tryd.prog W 0 (fun _ => true) true Tryd.f3.params.toList args.toList ds p := hA0
  rw [Tryd.params3] at hA hval
  obtain ⟨v0, vs0, d0, ds0, p0, q0, hargs, rfl, rfl, h0, r0⟩ := trodAll_cons hA
  obtain ⟨rfl, rfl, rfl⟩ := trodAll_nil r0
  obtain rfl : args = #[v0] := by cases args; simp_all
  obtain ⟨rfl, rfl⟩ := trodVars_none hV
  have k0 := h0
  have lt0 : ∀ x ∈ p0, x.block < W.heap.size := by obtain ⟨m, hm⟩ := k0; exact DataW.trod_lt m _ _ _ hm
  clear hA0 hval0
  obtain ⟨m, hm, _⟩ := open_machine (hval 0 _ v0 rfl rfl) h0
  refine (FnExactLoopsText.core v0 m W hm (of_laid hL)).mono fun e W' ⟨he, bel⟩ => ?_
  subst he
  exact ⟨_, rfl, _, _, _, [], _, [], hW', trodAll_mk1 (shut_bool Tryd.underlying4 _), (trodAll_cons_mk (Below.trod laidOut (by kernel_rfl) (of_decide_eq_true (by kernel_rfl)) k0 bel lt0) trodAll_mk0), rfl, bel.frame _, fun h => by cases h⟩

theorem row_holds : Rows.FnExactLoopsTextSaid :=
  OpenClaim.holds_of_wide 3 Tryd.f3 rfl rfl rfl rfl rfl rfl rfl ⟨rfl, rfl, rfl, rfl, rfl⟩ rfl rfl rfl rfl rfl (by kernel_rfl) Tryd.func3 (by kernel_rfl)
    (of_decide_eq_true (by kernel_rfl)) (by unfold Func.isWrapper; first | (rw [if_pos (by decide +kernel)]; kernel_rfl) | (rw [if_neg (by decide +kernel)]; exact ⟨rfl, rfl⟩))
    (fun os started H enc _ => lifted os started H enc)

theorem proved : Rows.FnExactLoopsTextCardSaid :=
  Claim7.holds_tied_plain_at .later [] [.data, .data, .data] true (true, "3efac7957c2642dcca2cf6bc2db221e59a0587199b66efb0193ddfcc95e68d11") false
    row_holds (fun _ h => by cases h) (by kernel_rfl) (fun _ h => by cases h) fnExactLoopsText_row_tie rfl ⟨rfl, rfl⟩ (by kernel_rfl) rfl
    (fun f fn hf hfn => by
      obtain rfl : f = 3 := Option.some.inj ((show Tryd.prog.funcNamed "loop.example/g00856/laws.FnExactLoopsText" = some 3 by kernel_rfl).symm.trans hf) |>.symm
      obtain rfl : fn = Tryd.f3 := (Option.some.inj (Tryd.func3.symm.trans hfn)).symm
      exact ⟨by kernel_rfl, fun j t ht => by
        rw [Tryd.params3] at ht
        have h3 : t = 27 := by
          rcases j with _ | j
          · simpa using ht.symm
          · simp at ht
        subst h3
        exact (show Tryd.prog.wantsStandIn 27 = false by kernel_rfl)⟩)
    (by kernel_rfl)
end FnExactLoopsText

end Go.Proofs.YtccdnmafakaleaaDoor
