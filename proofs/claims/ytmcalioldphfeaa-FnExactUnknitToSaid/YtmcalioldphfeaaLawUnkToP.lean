/-
  The program's UnknitTo returns what the reference's returns, for every machine and every number of loops; no condition.
-/
import Derived.Test.YtmcalioldphfeaaPk11
import Derived.Test.YtmcalioldphfeaaPk9
import Derived.Test.YtmcalioldphfeaaMcMark
import Derived.Test.YtmcalioldphfeaaKept
import Derived.Deep.RegionHeld3
import Derived.Deep.RegionWith
import Derived.Deep.Cut
namespace Go.Proofs.Ytmcalioldphfeaa
set_option linter.unusedVariables false
set_option linter.unusedSimpArgs false
open Go.ChangeShapes Go.WideShapes Go.ChangeAt Go.RowKit
open Go.ChangeMaps (open_string shut_string)

set_option maxHeartbeats 8000000 in
set_option maxRecDepth 100000 in
theorem FnExactUnknitTo.core (v0 : Value) (m : Mc) (k : Int) (W : World) (hl0 : RdM W W.heap.size v0 m) :
    Calls Try.prog 4 #[v0, .int .i64 k] W fun e W' => e = .returned (.bool true) ∧ Below W.heap.size W W' := by
  obtain ⟨AF0, cF0, AG0, cG0, AC0, cC0, AI0, cI0, AD0, cD0, rfl⟩ := RdM.shape hl0
  have h0 := hl0
  clear hl0
  have H0 : Hid (RdM W W.heap.size _ m) := h0
  clear h0
  have hcl0 : ∀ w1, Below ((W.alloc (.cells #[.int .i64 (m).wd, .int .i64 (m).rk, .slice AF0 (m).fr.length cF0, .slice AG0 (m).bk.length cG0, .slice AC0 (m).cs.length cC0, .slice AI0 (m).ls.length cI0, .slice AD0 (m).dr.length cD0] 27)) : World).heap.size (W.alloc (.cells #[.int .i64 (m).wd, .int .i64 (m).rk, .slice AF0 (m).fr.length cF0, .slice AG0 (m).bk.length cG0, .slice AC0 (m).cs.length cC0, .slice AI0 (m).ls.length cI0, .slice AD0 (m).dr.length cD0] 27)) w1 → CellsAt w1 (W.heap.size) 0 [.int .i64 (m).wd, .int .i64 (m).rk, .slice AF0 (m).fr.length cF0, .slice AG0 (m).bk.length cG0, .slice AC0 (m).cs.length cC0, .slice AI0 (m).ls.length cI0, .slice AD0 (m).dr.length cD0] := by
    intro w1 hb1 j u hu
    rw [hb1.cell (by simp; try omega)]
    rcases j with _ | _ | _ | _ | _ | _ | _ | j <;> simp at hu <;> subst hu <;> simp [go_sem]
  obtain ⟨z0, e0⟩ : ∃ z, szM 1048576 m = z := ⟨_, rfl⟩
  have E0 := Lib.hid e0
  clear e0
  by_cases p0 : 0 ≤ z0
  case neg =>
    have q0 : z0 < 0 := by omega
    clear p0
    go_enter Try.func4, Try.ntmps4
    go_wp2_with fail
    refine (szMachine_any _ m _ ((H0.out.below ((Below.refl _ _).alloc (by first | exact Nat.le_refl _ | (simp; done) | (simp; omega)) _)).more ((Below.refl _ _).alloc (by first | exact Nat.le_refl _ | (simp; done) | (simp; omega)) _).size)).mono ?_
    rintro e w1 ⟨rfl, hb⟩
    rw [E0.out]
    have S1 := Lib.hid hb.size
    have B1 := Lib.hid (hb)
    clear hb
    go_wp2
    go_ret
    exact ⟨rfl, (((Below.refl _ _).alloc (by first | exact Nat.le_refl _ | (simp; done) | (simp; omega)) _).trans (B1.out.mono (by first | (simp; done) | (simp; omega))))⟩
  obtain ⟨f0, u0⟩ := szM_pos E0.out p0
  have s0 := Lib.hid f0
  clear f0
  have sr : Hid (0 ≤ mkM (utR m k) ∧ mkM (utR m k) ≤ 5242880) := utR_marks m k
  go_enter Try.func4, Try.ntmps4
  go_wp2_with fail
  refine (szMachine_any _ m _ ((H0.out.below ((Below.refl _ _).alloc (by first | exact Nat.le_refl _ | (simp; done) | (simp; omega)) _)).more ((Below.refl _ _).alloc (by first | exact Nat.le_refl _ | (simp; done) | (simp; omega)) _).size)).mono ?_
  rintro e w1 ⟨rfl, hb⟩
  rw [E0.out]
  have S1 := Lib.hid hb.size
  have B1 := Lib.hid (hb)
  clear hb
  obtain ⟨k0_0, k0_1, k0_2, k0_3, k0_4, k0_5, k0_6⟩ := (hcl0 _ B1.out).seven
  go_wp2_with fail
  clear k0_0 k0_1 k0_2 k0_3 k0_4 k0_5 k0_6
  refine (toMachine_any _ m _ ((H0.out.below (((Below.refl _ _).alloc (by first | exact Nat.le_refl _ | (simp; done) | (simp; omega)) _).trans (B1.out.mono (by first | (simp; done) | (simp; omega))))).more (((Below.refl _ _).alloc (by first | exact Nat.le_refl _ | (simp; done) | (simp; omega)) _).trans (B1.out.mono (by first | (simp; done) | (simp; omega)))).size) s0.out).mono ?_
  rintro e w2 ⟨va0, rfl, ho, hb⟩
  obtain ⟨AFa0, cFa0, AGa0, cGa0, ACa0, cCa0, AIa0, cIa0, ADa0, cDa0, rfl⟩ := OwM.shape ho
  have S2 := Lib.hid hb.size
  have B2 := Lib.hid (B1.out.trans (hb.mono B1.out.size))
  have Oa0 : Hid (OwM _ _ _ _ (m)) := ho
  clear ho
  clear hb B1
  go_wp2_with fail
  refine (specUnkTo_any _ m k _ ((RdM.of_own Oa0.out).more (by have := S1.out; have := S2.out; omega)) s0.out).mono ?_
  rintro e w3 ⟨vw, rfl, ho, hb⟩
  obtain ⟨AFw, cFw, AGw, cGw, ACw, cCw, AIw, cIw, ADw, cDw, rfl⟩ := OwMs.shape ho
  have Oa0' := Lib.hid (Oa0.out.below (hb.mono (by have := S1.out; have := S2.out; omega)))
  clear Oa0
  have Oa0 := Oa0'
  clear Oa0'
  have S3 := Lib.hid hb.size
  have B3 := Lib.hid (B2.out.trans (hb.mono B2.out.size))
  have Ow : Hid (OwMs _ _ _ _ (utR m k)) := ho
  clear ho
  clear hb B2
  have hb : Below w3.heap.size w3 (w3.alloc (.cells #[.int .i64 (utR m k).wd, .int .i64 (utR m k).rk, .slice AFw (utR m k).fr.length cFw, .slice AGw (utR m k).bk.length cGw, .slice ACw (utR m k).cs.length cCw, .slice AIw (utR m k).ls.length cIw, .slice ADw (utR m k).dr.length cDw] 32)) := (Below.refl _ _).alloc (Nat.le_refl _) _
  have Oa0' := Lib.hid (Oa0.out.below (hb.mono (by have := S1.out; have := S2.out; have := S3.out; omega)))
  have Ow' := Lib.hid (Ow.out.below (hb.mono (by have := S1.out; have := S2.out; have := S3.out; omega)))
  clear Oa0 Ow
  have Oa0 := Oa0'
  have Ow := Ow'
  clear Oa0' Ow'
  have S4 := Lib.hid hb.size
  have B4 := Lib.hid (B3.out.trans (hb.mono B3.out.size))
  clear hb B3
  have hqw : CellsAt (w3.alloc (.cells #[.int .i64 (utR m k).wd, .int .i64 (utR m k).rk, .slice AFw (utR m k).fr.length cFw, .slice AGw (utR m k).bk.length cGw, .slice ACw (utR m k).cs.length cCw, .slice AIw (utR m k).ls.length cIw, .slice ADw (utR m k).dr.length cDw] 32)) w3.heap.size 0 [.int .i64 (utR m k).wd, .int .i64 (utR m k).rk, .slice AFw (utR m k).fr.length cFw, .slice AGw (utR m k).bk.length cGw, .slice ACw (utR m k).cs.length cCw, .slice AIw (utR m k).ls.length cIw, .slice ADw (utR m k).dr.length cDw] := by
    intro j u hu
    rcases j with _ | _ | _ | _ | _ | _ | _ | j <;> simp at hu <;> subst hu <;> simp [go_sem]
  have hclw : ∀ w1, Kept w3.heap.size (w3.alloc (.cells #[.int .i64 (utR m k).wd, .int .i64 (utR m k).rk, .slice AFw (utR m k).fr.length cFw, .slice AGw (utR m k).bk.length cGw, .slice ACw (utR m k).cs.length cCw, .slice AIw (utR m k).ls.length cIw, .slice ADw (utR m k).dr.length cDw] 32)) w1 → CellsAt w1 w3.heap.size 0 [.int .i64 (utR m k).wd, .int .i64 (utR m k).rk, .slice AFw (utR m k).fr.length cFw, .slice AGw (utR m k).bk.length cGw, .slice ACw (utR m k).cs.length cCw, .slice AIw (utR m k).ls.length cIw, .slice ADw (utR m k).dr.length cDw] := fun w1 hb1 => hb1.cells hqw
  clear hqw
  have BXw : Hid (Kept w3.heap.size (w3.alloc (.cells #[.int .i64 (utR m k).wd, .int .i64 (utR m k).rk, .slice AFw (utR m k).fr.length cFw, .slice AGw (utR m k).bk.length cGw, .slice ACw (utR m k).cs.length cCw, .slice AIw (utR m k).ls.length cIw, .slice ADw (utR m k).dr.length cDw] 32)) (w3.alloc (.cells #[.int .i64 (utR m k).wd, .int .i64 (utR m k).rk, .slice AFw (utR m k).fr.length cFw, .slice AGw (utR m k).bk.length cGw, .slice ACw (utR m k).cs.length cCw, .slice AIw (utR m k).ls.length cIw, .slice ADw (utR m k).dr.length cDw] 32))) := Kept.refl (by simp)
  have Tw : Hid (w3.heap.size < (w3.alloc (.cells #[.int .i64 (utR m k).wd, .int .i64 (utR m k).rk, .slice AFw (utR m k).fr.length cFw, .slice AGw (utR m k).bk.length cGw, .slice ACw (utR m k).cs.length cCw, .slice AIw (utR m k).ls.length cIw, .slice ADw (utR m k).dr.length cDw] 32)).heap.size) := BXw.out.lt
  clear Oa0
  obtain ⟨k0_0, k0_1, k0_2, k0_3, k0_4, k0_5, k0_6⟩ := (hcl0 _ B4.out).seven
  go_wp2_with fail
  clear k0_0 k0_1 k0_2 k0_3 k0_4 k0_5 k0_6
  refine (toMachine_any _ m _ ((H0.out.below (((Below.refl _ _).alloc (by first | exact Nat.le_refl _ | (simp; done) | (simp; omega)) _).trans (B4.out.mono (by first | (simp; done) | (simp; omega))))).more (((Below.refl _ _).alloc (by first | exact Nat.le_refl _ | (simp; done) | (simp; omega)) _).trans (B4.out.mono (by first | (simp; done) | (simp; omega)))).size) s0.out).mono ?_
  rintro e w5 ⟨vx0, rfl, ho, hb⟩
  obtain ⟨AFx0, cFx0, AGx0, cGx0, ACx0, cCx0, AIx0, cIx0, ADx0, cDx0, rfl⟩ := OwM.shape ho
  have Ow' := Lib.hid (Ow.out.below (hb.mono (by have := S1.out; have := S2.out; have := S3.out; have := S4.out; have := Tw.out; omega)))
  clear Ow
  have Ow := Ow'
  clear Ow'
  have S5 := Lib.hid hb.size
  have B5 := Lib.hid (B4.out.trans (hb.mono B4.out.size))
  have BXw' := Lib.hid (BXw.out.next hb)
  clear BXw
  have BXw := BXw'
  clear BXw'
  have Ox0 : Hid (OwM _ _ _ _ (m)) := ho
  clear ho
  clear hb B4
  have hb : Below w5.heap.size w5 (w5.alloc (.cells #[.int .i64 (m).wd, .int .i64 (m).rk, .slice AFx0 (m).fr.length cFx0, .slice AGx0 (m).bk.length cGx0, .slice ACx0 (m).cs.length cCx0, .slice AIx0 (m).ls.length cIx0, .slice ADx0 (m).dr.length cDx0] 32)) := (Below.refl _ _).alloc (Nat.le_refl _) _
  have Ow' := Lib.hid (Ow.out.below (hb.mono (by have := S1.out; have := S2.out; have := S3.out; have := S4.out; have := S5.out; have := Tw.out; omega)))
  have Ox0' := Lib.hid (Ox0.out.below (hb.mono (by have := S1.out; have := S2.out; have := S3.out; have := S4.out; have := S5.out; have := Tw.out; omega)))
  clear Ow Ox0
  have Ow := Ow'
  have Ox0 := Ox0'
  clear Ow' Ox0'
  have S6 := Lib.hid hb.size
  have B6 := Lib.hid (B5.out.trans (hb.mono B5.out.size))
  have BXw' := Lib.hid (BXw.out.next hb)
  clear BXw
  have BXw := BXw'
  clear BXw'
  clear hb B5
  have hqx0 : CellsAt (w5.alloc (.cells #[.int .i64 (m).wd, .int .i64 (m).rk, .slice AFx0 (m).fr.length cFx0, .slice AGx0 (m).bk.length cGx0, .slice ACx0 (m).cs.length cCx0, .slice AIx0 (m).ls.length cIx0, .slice ADx0 (m).dr.length cDx0] 32)) w5.heap.size 0 [.int .i64 (m).wd, .int .i64 (m).rk, .slice AFx0 (m).fr.length cFx0, .slice AGx0 (m).bk.length cGx0, .slice ACx0 (m).cs.length cCx0, .slice AIx0 (m).ls.length cIx0, .slice ADx0 (m).dr.length cDx0] := by
    intro j u hu
    rcases j with _ | _ | _ | _ | _ | _ | _ | j <;> simp at hu <;> subst hu <;> simp [go_sem]
  have hclx0 : ∀ w1, Kept w5.heap.size (w5.alloc (.cells #[.int .i64 (m).wd, .int .i64 (m).rk, .slice AFx0 (m).fr.length cFx0, .slice AGx0 (m).bk.length cGx0, .slice ACx0 (m).cs.length cCx0, .slice AIx0 (m).ls.length cIx0, .slice ADx0 (m).dr.length cDx0] 32)) w1 → CellsAt w1 w5.heap.size 0 [.int .i64 (m).wd, .int .i64 (m).rk, .slice AFx0 (m).fr.length cFx0, .slice AGx0 (m).bk.length cGx0, .slice ACx0 (m).cs.length cCx0, .slice AIx0 (m).ls.length cIx0, .slice ADx0 (m).dr.length cDx0] := fun w1 hb1 => hb1.cells hqx0
  clear hqx0
  have BXx0 : Hid (Kept w5.heap.size (w5.alloc (.cells #[.int .i64 (m).wd, .int .i64 (m).rk, .slice AFx0 (m).fr.length cFx0, .slice AGx0 (m).bk.length cGx0, .slice ACx0 (m).cs.length cCx0, .slice AIx0 (m).ls.length cIx0, .slice ADx0 (m).dr.length cDx0] 32)) (w5.alloc (.cells #[.int .i64 (m).wd, .int .i64 (m).rk, .slice AFx0 (m).fr.length cFx0, .slice AGx0 (m).bk.length cGx0, .slice ACx0 (m).cs.length cCx0, .slice AIx0 (m).ls.length cIx0, .slice ADx0 (m).dr.length cDx0] 32))) := Kept.refl (by simp)
  have Tx0 : Hid (w5.heap.size < (w5.alloc (.cells #[.int .i64 (m).wd, .int .i64 (m).rk, .slice AFx0 (m).fr.length cFx0, .slice AGx0 (m).bk.length cGx0, .slice ACx0 (m).cs.length cCx0, .slice AIx0 (m).ls.length cIx0, .slice ADx0 (m).dr.length cDx0] 32)).heap.size) := BXx0.out.lt
  go_wp2_with fail
  refine (implUnkTo_any _ m k _ ((RdM.of_own Ox0.out).more (by have := S1.out; have := S2.out; have := S3.out; have := S4.out; have := S5.out; have := S6.out; have := Tw.out; have := Tx0.out; omega)) s0.out).mono ?_
  rintro e w7 ⟨vg, rfl, ho, hb⟩
  obtain ⟨AFg, cFg, AGg, cGg, ACg, cCg, AIg, cIg, ADg, cDg, rfl⟩ := OwMs.shape ho
  have Ow' := Lib.hid (Ow.out.below (hb.mono (by have := S1.out; have := S2.out; have := S3.out; have := S4.out; have := S5.out; have := S6.out; have := Tw.out; have := Tx0.out; omega)))
  have Ox0' := Lib.hid (Ox0.out.below (hb.mono (by have := S1.out; have := S2.out; have := S3.out; have := S4.out; have := S5.out; have := S6.out; have := Tw.out; have := Tx0.out; omega)))
  clear Ow Ox0
  have Ow := Ow'
  have Ox0 := Ox0'
  clear Ow' Ox0'
  have S7 := Lib.hid hb.size
  have B7 := Lib.hid (B6.out.trans (hb.mono B6.out.size))
  have BXw' := Lib.hid (BXw.out.next hb)
  clear BXw
  have BXw := BXw'
  clear BXw'
  have BXx0' := Lib.hid (BXx0.out.next hb)
  clear BXx0
  have BXx0 := BXx0'
  clear BXx0'
  have Og : Hid (OwMs _ _ _ _ (utR m k)) := ho
  clear ho
  clear hb B6
  have hb : Below w7.heap.size w7 (w7.alloc (.cells #[.int .i64 (utR m k).wd, .int .i64 (utR m k).rk, .slice AFg (utR m k).fr.length cFg, .slice AGg (utR m k).bk.length cGg, .slice ACg (utR m k).cs.length cCg, .slice AIg (utR m k).ls.length cIg, .slice ADg (utR m k).dr.length cDg] 32)) := (Below.refl _ _).alloc (Nat.le_refl _) _
  have Ow' := Lib.hid (Ow.out.below (hb.mono (by have := S1.out; have := S2.out; have := S3.out; have := S4.out; have := S5.out; have := S6.out; have := S7.out; have := Tw.out; have := Tx0.out; omega)))
  have Ox0' := Lib.hid (Ox0.out.below (hb.mono (by have := S1.out; have := S2.out; have := S3.out; have := S4.out; have := S5.out; have := S6.out; have := S7.out; have := Tw.out; have := Tx0.out; omega)))
  have Og' := Lib.hid (Og.out.below (hb.mono (by have := S1.out; have := S2.out; have := S3.out; have := S4.out; have := S5.out; have := S6.out; have := S7.out; have := Tw.out; have := Tx0.out; omega)))
  clear Ow Ox0 Og
  have Ow := Ow'
  have Ox0 := Ox0'
  have Og := Og'
  clear Ow' Ox0' Og'
  have S8 := Lib.hid hb.size
  have B8 := Lib.hid (B7.out.trans (hb.mono B7.out.size))
  have BXw' := Lib.hid (BXw.out.next hb)
  clear BXw
  have BXw := BXw'
  clear BXw'
  have BXx0' := Lib.hid (BXx0.out.next hb)
  clear BXx0
  have BXx0 := BXx0'
  clear BXx0'
  clear hb B7
  have hqg : CellsAt (w7.alloc (.cells #[.int .i64 (utR m k).wd, .int .i64 (utR m k).rk, .slice AFg (utR m k).fr.length cFg, .slice AGg (utR m k).bk.length cGg, .slice ACg (utR m k).cs.length cCg, .slice AIg (utR m k).ls.length cIg, .slice ADg (utR m k).dr.length cDg] 32)) w7.heap.size 0 [.int .i64 (utR m k).wd, .int .i64 (utR m k).rk, .slice AFg (utR m k).fr.length cFg, .slice AGg (utR m k).bk.length cGg, .slice ACg (utR m k).cs.length cCg, .slice AIg (utR m k).ls.length cIg, .slice ADg (utR m k).dr.length cDg] := by
    intro j u hu
    rcases j with _ | _ | _ | _ | _ | _ | _ | j <;> simp at hu <;> subst hu <;> simp [go_sem]
  have hclg : ∀ w1, Kept w7.heap.size (w7.alloc (.cells #[.int .i64 (utR m k).wd, .int .i64 (utR m k).rk, .slice AFg (utR m k).fr.length cFg, .slice AGg (utR m k).bk.length cGg, .slice ACg (utR m k).cs.length cCg, .slice AIg (utR m k).ls.length cIg, .slice ADg (utR m k).dr.length cDg] 32)) w1 → CellsAt w1 w7.heap.size 0 [.int .i64 (utR m k).wd, .int .i64 (utR m k).rk, .slice AFg (utR m k).fr.length cFg, .slice AGg (utR m k).bk.length cGg, .slice ACg (utR m k).cs.length cCg, .slice AIg (utR m k).ls.length cIg, .slice ADg (utR m k).dr.length cDg] := fun w1 hb1 => hb1.cells hqg
  clear hqg
  have BXg : Hid (Kept w7.heap.size (w7.alloc (.cells #[.int .i64 (utR m k).wd, .int .i64 (utR m k).rk, .slice AFg (utR m k).fr.length cFg, .slice AGg (utR m k).bk.length cGg, .slice ACg (utR m k).cs.length cCg, .slice AIg (utR m k).ls.length cIg, .slice ADg (utR m k).dr.length cDg] 32)) (w7.alloc (.cells #[.int .i64 (utR m k).wd, .int .i64 (utR m k).rk, .slice AFg (utR m k).fr.length cFg, .slice AGg (utR m k).bk.length cGg, .slice ACg (utR m k).cs.length cCg, .slice AIg (utR m k).ls.length cIg, .slice ADg (utR m k).dr.length cDg] 32))) := Kept.refl (by simp)
  have Tg : Hid (w7.heap.size < (w7.alloc (.cells #[.int .i64 (utR m k).wd, .int .i64 (utR m k).rk, .slice AFg (utR m k).fr.length cFg, .slice AGg (utR m k).bk.length cGg, .slice ACg (utR m k).cs.length cCg, .slice AIg (utR m k).ls.length cIg, .slice ADg (utR m k).dr.length cDg] 32)).heap.size) := BXg.out.lt
  obtain ⟨kw_0, kw_1, kw_2, kw_3, kw_4, kw_5, kw_6⟩ := (hclw _ BXw.out).seven
  obtain ⟨kg_0, kg_1, kg_2, kg_3, kg_4, kg_5, kg_6⟩ := (hclg _ BXg.out).seven
  go_wp2_with fail
  clear kw_0 kw_1 kw_2 kw_3 kw_4 kw_5 kw_6
  clear kg_0 kg_1 kg_2 kg_3 kg_4 kg_5 kg_6
  refine (eqMachine_same _ _ (utR m k) _ ((OwMs.rd Og.out).more (by have := S1.out; have := S2.out; have := S3.out; have := S4.out; have := S5.out; have := S6.out; have := S7.out; have := S8.out; have := Tw.out; have := Tx0.out; have := Tg.out; omega)) ((OwMs.rd Ow.out).more (by have := S1.out; have := S2.out; have := S3.out; have := S4.out; have := S5.out; have := S6.out; have := S7.out; have := S8.out; have := Tw.out; have := Tx0.out; have := Tg.out; omega))).mono ?_
  rintro e w9 ⟨rfl, hb⟩
  have Ow' := Lib.hid (Ow.out.below (hb.mono (by have := S1.out; have := S2.out; have := S3.out; have := S4.out; have := S5.out; have := S6.out; have := S7.out; have := S8.out; have := Tw.out; have := Tx0.out; have := Tg.out; omega)))
  have Ox0' := Lib.hid (Ox0.out.below (hb.mono (by have := S1.out; have := S2.out; have := S3.out; have := S4.out; have := S5.out; have := S6.out; have := S7.out; have := S8.out; have := Tw.out; have := Tx0.out; have := Tg.out; omega)))
  have Og' := Lib.hid (Og.out.below (hb.mono (by have := S1.out; have := S2.out; have := S3.out; have := S4.out; have := S5.out; have := S6.out; have := S7.out; have := S8.out; have := Tw.out; have := Tx0.out; have := Tg.out; omega)))
  clear Ow Ox0 Og
  have Ow := Ow'
  have Ox0 := Ox0'
  have Og := Og'
  clear Ow' Ox0' Og'
  have S9 := Lib.hid hb.size
  have B9 := Lib.hid (B8.out.trans (hb.mono B8.out.size))
  have BXw' := Lib.hid (BXw.out.next hb)
  clear BXw
  have BXw := BXw'
  clear BXw'
  have BXx0' := Lib.hid (BXx0.out.next hb)
  clear BXx0
  have BXx0 := BXx0'
  clear BXx0'
  have BXg' := Lib.hid (BXg.out.next hb)
  clear BXg
  have BXg := BXg'
  clear BXg'
  clear hb B8
  obtain ⟨k0_0, k0_1, k0_2, k0_3, k0_4, k0_5, k0_6⟩ := (hcl0 _ B9.out).seven
  obtain ⟨kx0_0, kx0_1, kx0_2, kx0_3, kx0_4, kx0_5, kx0_6⟩ := (hclx0 _ BXx0.out).seven
  go_wp2
  go_region_held3 (fun w' => w'.cell? ⟨W.heap.size, 0, none⟩ = some (.int .i64 (m).wd) ∧ w'.cell? ⟨W.heap.size, 1, none⟩ = some (.int .i64 (m).rk) ∧ w'.cell? ⟨W.heap.size, 2, none⟩ = some (.slice AF0 (m).fr.length cF0) ∧ w'.cell? ⟨W.heap.size, 3, none⟩ = some (.slice AG0 (m).bk.length cG0) ∧ w'.cell? ⟨W.heap.size, 4, none⟩ = some (.slice AC0 (m).cs.length cC0) ∧ w'.cell? ⟨W.heap.size, 5, none⟩ = some (.slice AI0 (m).ls.length cI0) ∧ w'.cell? ⟨W.heap.size, 6, none⟩ = some (.slice AD0 (m).dr.length cD0) ∧ w'.cell? ⟨w5.heap.size, 0, none⟩ = some (.int .i64 (m).wd) ∧ w'.cell? ⟨w5.heap.size, 1, none⟩ = some (.int .i64 (m).rk) ∧ w'.cell? ⟨w5.heap.size, 2, none⟩ = some (.slice AFx0 (m).fr.length cFx0) ∧ w'.cell? ⟨w5.heap.size, 3, none⟩ = some (.slice AGx0 (m).bk.length cGx0) ∧ w'.cell? ⟨w5.heap.size, 4, none⟩ = some (.slice ACx0 (m).cs.length cCx0) ∧ w'.cell? ⟨w5.heap.size, 5, none⟩ = some (.slice AIx0 (m).ls.length cIx0) ∧ w'.cell? ⟨w5.heap.size, 6, none⟩ = some (.slice ADx0 (m).dr.length cDx0)) (first | exact ⟨k0_0, k0_1, k0_2, k0_3, k0_4, k0_5, k0_6, kx0_0, kx0_1, kx0_2, kx0_3, kx0_4, kx0_5, kx0_6⟩ | exact ⟨m0_0, m0_1, m0_2, m0_3, m0_4, m0_5, m0_6, mx0_0, mx0_1, mx0_2, mx0_3, mx0_4, mx0_5, mx0_6⟩ | exact ⟨q0_0, q0_1, q0_2, q0_3, q0_4, q0_5, q0_6, qx0_0, qx0_1, qx0_2, qx0_3, qx0_4, qx0_5, qx0_6⟩)
    (first
      | (go_at_call 10; refine (toMachine_any _ m _ ((H0.out.below (((Below.refl _ _).alloc (by first | exact Nat.le_refl _ | (simp; done) | (simp; omega)) _).trans (B9.out.mono (by first | (simp; done) | (simp; omega)))).drew).more ((((Below.refl _ _).alloc (by first | exact Nat.le_refl _ | (simp; done) | (simp; omega)) _).trans (B9.out.mono (by first | (simp; done) | (simp; omega)))).drew).size) s0.out).mono ?_; rintro e wy ⟨vy, rfl, ho, hb⟩; obtain ⟨AFy, cFy, AGy, cGy, ACy, cCy, AIy, cIy, ADy, cDy, rfl⟩ := OwM.shape ho; have hba : Below w9.heap.size w9 wy := ((Below.refl _ _).drew).trans hb; have Oy : Hid (OwM _ _ _ _ (m)) := ho; have hbi := Lib.hid hba; have hb := hba; clear hba; have hbm := hb; have hbn := hb; clear hb; have hb := hbn; obtain ⟨m0_0, m0_1, m0_2, m0_3, m0_4, m0_5, m0_6⟩ := (hcl0 _ (B9.out.trans (hbm.mono (by have := B9.out.size; omega)))).seven; obtain ⟨mx0_0, mx0_1, mx0_2, mx0_3, mx0_4, mx0_5, mx0_6⟩ := (hclx0 _ (BXx0.out.next hbm)).seven)
      | (go_at_call 12; refine (eqMachine_same _ _ (m) _ ((RdM.of_own Ox0.out).below (hbm.mono (by have := S1.out; have := S2.out; have := S3.out; have := S4.out; have := S5.out; have := S6.out; have := S7.out; have := S8.out; have := S9.out; have := Tw.out; have := Tx0.out; have := Tg.out; omega)) |>.more (by have := S1.out; have := S2.out; have := S3.out; have := S4.out; have := S5.out; have := S6.out; have := S7.out; have := S8.out; have := S9.out; have := Tw.out; have := Tx0.out; have := Tg.out; have := hbm.size; omega)) (RdM.of_own Oy.out)).mono ?_; rintro e we0 ⟨rfl, hbe⟩; have hbq : Below w9.heap.size w9 we0 := hbm.trans (hbe.mono hbm.size); obtain ⟨q0_0, q0_1, q0_2, q0_3, q0_4, q0_5, q0_6⟩ := (hcl0 _ (B9.out.trans (hbq.mono (by have := B9.out.size; omega)))).seven; obtain ⟨qx0_0, qx0_1, qx0_2, qx0_3, qx0_4, qx0_5, qx0_6⟩ := (hclx0 _ (BXx0.out.next hbq)).seven))
  clear k0_0 k0_1 k0_2 k0_3 k0_4 k0_5 k0_6
  clear kx0_0 kx0_1 kx0_2 kx0_3 kx0_4 kx0_5 kx0_6
  have hb := hbq
  clear hbq hbm hbe Oy hbn hbi
  have Ow' := Lib.hid (Ow.out.below (hb.mono (by have := S1.out; have := S2.out; have := S3.out; have := S4.out; have := S5.out; have := S6.out; have := S7.out; have := S8.out; have := S9.out; have := Tw.out; have := Tx0.out; have := Tg.out; omega)))
  have Ox0' := Lib.hid (Ox0.out.below (hb.mono (by have := S1.out; have := S2.out; have := S3.out; have := S4.out; have := S5.out; have := S6.out; have := S7.out; have := S8.out; have := S9.out; have := Tw.out; have := Tx0.out; have := Tg.out; omega)))
  have Og' := Lib.hid (Og.out.below (hb.mono (by have := S1.out; have := S2.out; have := S3.out; have := S4.out; have := S5.out; have := S6.out; have := S7.out; have := S8.out; have := S9.out; have := Tw.out; have := Tx0.out; have := Tg.out; omega)))
  clear Ow Ox0 Og
  have Ow := Ow'
  have Ox0 := Ox0'
  have Og := Og'
  clear Ow' Ox0' Og'
  have S10 := Lib.hid hb.size
  have B10 := Lib.hid (B9.out.trans (hb.mono B9.out.size))
  have BXw' := Lib.hid (BXw.out.next hb)
  clear BXw
  have BXw := BXw'
  clear BXw'
  have BXx0' := Lib.hid (BXx0.out.next hb)
  clear BXx0
  have BXx0 := BXx0'
  clear BXx0'
  have BXg' := Lib.hid (BXg.out.next hb)
  clear BXg
  have BXg := BXg'
  clear BXg'
  clear hb B9
  have Mx0 := Lib.hid (mkM_le E0.out p0)
  have Mx0a := Mx0.out.1
  have Mx0b := Mx0.out.2
  obtain ⟨kx0_0, kx0_1, kx0_2, kx0_3, kx0_4, kx0_5, kx0_6⟩ := (hclx0 _ BXx0.out).seven
  go_wp2_with fail
  clear kx0_0 kx0_1 kx0_2 kx0_3 kx0_4 kx0_5 kx0_6
  refine (markMachine_any _ m _ _ _ Ox0.out (by have := S1.out; have := S2.out; have := S3.out; have := S4.out; have := S5.out; have := S6.out; have := S7.out; have := S8.out; have := S9.out; have := S10.out; have := Tw.out; have := Tx0.out; have := Tg.out; omega) Mx0.out.1 Mx0.out.2).mono ?_
  rintro e w11 ⟨rfl, hb⟩
  have Ow' := Lib.hid (Ow.out.only hb (by have := S1.out; have := S2.out; have := S3.out; have := S4.out; have := S5.out; have := S6.out; have := S7.out; have := S8.out; have := S9.out; have := S10.out; have := Tw.out; have := Tx0.out; have := Tg.out; omega) (by have := S1.out; have := S2.out; have := S3.out; have := S4.out; have := S5.out; have := S6.out; have := S7.out; have := S8.out; have := S9.out; have := S10.out; have := Tw.out; have := Tx0.out; have := Tg.out; omega))
  have Og' := Lib.hid (Og.out.only hb (by have := S1.out; have := S2.out; have := S3.out; have := S4.out; have := S5.out; have := S6.out; have := S7.out; have := S8.out; have := S9.out; have := S10.out; have := Tw.out; have := Tx0.out; have := Tg.out; omega) (by have := S1.out; have := S2.out; have := S3.out; have := S4.out; have := S5.out; have := S6.out; have := S7.out; have := S8.out; have := S9.out; have := S10.out; have := Tw.out; have := Tx0.out; have := Tg.out; omega))
  clear Ow Og
  have Ow := Ow'
  have Og := Og'
  clear Ow' Og'
  have BXw' := Lib.hid (BXw.out.only hb (by first | (left; have := S1.out; have := S2.out; have := S3.out; have := S4.out; have := S5.out; have := S6.out; have := S7.out; have := S8.out; have := S9.out; have := S10.out; have := Tw.out; have := Tx0.out; have := Tg.out; omega) | (right; have := S1.out; have := S2.out; have := S3.out; have := S4.out; have := S5.out; have := S6.out; have := S7.out; have := S8.out; have := S9.out; have := S10.out; have := Tw.out; have := Tx0.out; have := Tg.out; omega)))
  clear BXw
  have BXw := BXw'
  clear BXw'
  have BXx0' := Lib.hid (BXx0.out.only hb (by first | (left; have := S1.out; have := S2.out; have := S3.out; have := S4.out; have := S5.out; have := S6.out; have := S7.out; have := S8.out; have := S9.out; have := S10.out; have := Tw.out; have := Tx0.out; have := Tg.out; omega) | (right; have := S1.out; have := S2.out; have := S3.out; have := S4.out; have := S5.out; have := S6.out; have := S7.out; have := S8.out; have := S9.out; have := S10.out; have := Tw.out; have := Tx0.out; have := Tg.out; omega)))
  clear BXx0
  have BXx0 := BXx0'
  clear BXx0'
  have BXg' := Lib.hid (BXg.out.only hb (by first | (left; have := S1.out; have := S2.out; have := S3.out; have := S4.out; have := S5.out; have := S6.out; have := S7.out; have := S8.out; have := S9.out; have := S10.out; have := Tw.out; have := Tx0.out; have := Tg.out; omega) | (right; have := S1.out; have := S2.out; have := S3.out; have := S4.out; have := S5.out; have := S6.out; have := S7.out; have := S8.out; have := S9.out; have := S10.out; have := Tw.out; have := Tx0.out; have := Tg.out; omega)))
  clear BXg
  have BXg := BXg'
  clear BXg'
  have S11 : Hid (we0.heap.size ≤ w11.heap.size) := hb.size
  have B11 := Lib.hid (B10.out.trans (hb.below (by have := S1.out; have := S2.out; have := S3.out; have := S4.out; have := S5.out; have := S6.out; have := S7.out; have := S8.out; have := S9.out; have := S10.out; have := S11.out; have := Tw.out; have := Tx0.out; have := Tg.out; omega) (by have := S1.out; have := S2.out; have := S3.out; have := S4.out; have := S5.out; have := S6.out; have := S7.out; have := S8.out; have := S9.out; have := S10.out; have := S11.out; have := Tw.out; have := Tx0.out; have := Tg.out; omega)))
  clear Ox0 hb B10
  obtain ⟨kw_0, kw_1, kw_2, kw_3, kw_4, kw_5, kw_6⟩ := (hclw _ BXw.out).seven
  obtain ⟨kg_0, kg_1, kg_2, kg_3, kg_4, kg_5, kg_6⟩ := (hclg _ BXg.out).seven
  go_wp2_with fail
  clear kw_0 kw_1 kw_2 kw_3 kw_4 kw_5 kw_6
  clear kg_0 kg_1 kg_2 kg_3 kg_4 kg_5 kg_6
  refine (eqMachine_same _ _ (utR m k) _ ((OwMs.rd Og.out).more (by have := S1.out; have := S2.out; have := S3.out; have := S4.out; have := S5.out; have := S6.out; have := S7.out; have := S8.out; have := S9.out; have := S10.out; have := S11.out; have := Tw.out; have := Tx0.out; have := Tg.out; omega)) ((OwMs.rd Ow.out).more (by have := S1.out; have := S2.out; have := S3.out; have := S4.out; have := S5.out; have := S6.out; have := S7.out; have := S8.out; have := S9.out; have := S10.out; have := S11.out; have := Tw.out; have := Tx0.out; have := Tg.out; omega))).mono ?_
  rintro e w12 ⟨rfl, hb⟩
  have Ow' := Lib.hid (Ow.out.below (hb.mono (by have := S1.out; have := S2.out; have := S3.out; have := S4.out; have := S5.out; have := S6.out; have := S7.out; have := S8.out; have := S9.out; have := S10.out; have := S11.out; have := Tw.out; have := Tx0.out; have := Tg.out; omega)))
  have Og' := Lib.hid (Og.out.below (hb.mono (by have := S1.out; have := S2.out; have := S3.out; have := S4.out; have := S5.out; have := S6.out; have := S7.out; have := S8.out; have := S9.out; have := S10.out; have := S11.out; have := Tw.out; have := Tx0.out; have := Tg.out; omega)))
  clear Ow Og
  have Ow := Ow'
  have Og := Og'
  clear Ow' Og'
  have S12 := Lib.hid hb.size
  have B12 := Lib.hid (B11.out.trans (hb.mono B11.out.size))
  have BXw' := Lib.hid (BXw.out.next hb)
  clear BXw
  have BXw := BXw'
  clear BXw'
  have BXg' := Lib.hid (BXg.out.next hb)
  clear BXg
  have BXg := BXg'
  clear BXg'
  clear hb B11
  obtain ⟨kg_0, kg_1, kg_2, kg_3, kg_4, kg_5, kg_6⟩ := (hclg _ BXg.out).seven
  go_wp2_with fail
  clear kg_0 kg_1 kg_2 kg_3 kg_4 kg_5 kg_6
  refine (markMs_any _ (utR m k) _ _ _ Og.out sr.out.1 sr.out.2).mono ?_
  rintro e w13 ⟨rfl, ho, hb⟩
  have Ow' := Lib.hid (Ow.out.only hb (by have := S1.out; have := S2.out; have := S3.out; have := S4.out; have := S5.out; have := S6.out; have := S7.out; have := S8.out; have := S9.out; have := S10.out; have := S11.out; have := S12.out; have := Tw.out; have := Tx0.out; have := Tg.out; omega) (by have := S1.out; have := S2.out; have := S3.out; have := S4.out; have := S5.out; have := S6.out; have := S7.out; have := S8.out; have := S9.out; have := S10.out; have := S11.out; have := S12.out; have := Tw.out; have := Tx0.out; have := Tg.out; omega))
  clear Ow
  have Ow := Ow'
  clear Ow'
  have BXw' := Lib.hid (BXw.out.only hb (by first | (left; have := S1.out; have := S2.out; have := S3.out; have := S4.out; have := S5.out; have := S6.out; have := S7.out; have := S8.out; have := S9.out; have := S10.out; have := S11.out; have := S12.out; have := Tw.out; have := Tx0.out; have := Tg.out; omega) | (right; have := S1.out; have := S2.out; have := S3.out; have := S4.out; have := S5.out; have := S6.out; have := S7.out; have := S8.out; have := S9.out; have := S10.out; have := S11.out; have := S12.out; have := Tw.out; have := Tx0.out; have := Tg.out; omega)))
  clear BXw
  have BXw := BXw'
  clear BXw'
  have BXg' := Lib.hid (BXg.out.only hb (by first | (left; have := S1.out; have := S2.out; have := S3.out; have := S4.out; have := S5.out; have := S6.out; have := S7.out; have := S8.out; have := S9.out; have := S10.out; have := S11.out; have := S12.out; have := Tw.out; have := Tx0.out; have := Tg.out; omega) | (right; have := S1.out; have := S2.out; have := S3.out; have := S4.out; have := S5.out; have := S6.out; have := S7.out; have := S8.out; have := S9.out; have := S10.out; have := S11.out; have := S12.out; have := Tw.out; have := Tx0.out; have := Tg.out; omega)))
  clear BXg
  have BXg := BXg'
  clear BXg'
  have S13 : Hid (w12.heap.size ≤ w13.heap.size) := hb.size
  have B13 := Lib.hid (B12.out.trans (hb.below (by have := S1.out; have := S2.out; have := S3.out; have := S4.out; have := S5.out; have := S6.out; have := S7.out; have := S8.out; have := S9.out; have := S10.out; have := S11.out; have := S12.out; have := S13.out; have := Tw.out; have := Tx0.out; have := Tg.out; omega) (by have := S1.out; have := S2.out; have := S3.out; have := S4.out; have := S5.out; have := S6.out; have := S7.out; have := S8.out; have := S9.out; have := S10.out; have := S11.out; have := S12.out; have := S13.out; have := Tw.out; have := Tx0.out; have := Tg.out; omega)))
  clear Og
  have Og := Lib.hid ho
  clear ho hb B12
  obtain ⟨kg_0, kg_1, kg_2, kg_3, kg_4, kg_5, kg_6⟩ := (hclg _ BXg.out).seven
  go_wp2_with fail
  clear kg_0 kg_1 kg_2 kg_3 kg_4 kg_5 kg_6
  refine (heldMs_any _ _ _ _ _ Og.out sr.out.1 sr.out.2).mono ?_
  rintro e w14 ⟨rfl, hb⟩
  have Og' := Lib.hid (OmMs.below Og.out (hb.mono (by have := S1.out; have := S2.out; have := S3.out; have := S4.out; have := S5.out; have := S6.out; have := S7.out; have := S8.out; have := S9.out; have := S10.out; have := S11.out; have := S12.out; have := S13.out; have := Tw.out; have := Tx0.out; have := Tg.out; omega)))
  clear Og
  have Og_ := Og'
  clear Og'
  have Ow' := Lib.hid (Ow.out.below (hb.mono (by have := S1.out; have := S2.out; have := S3.out; have := S4.out; have := S5.out; have := S6.out; have := S7.out; have := S8.out; have := S9.out; have := S10.out; have := S11.out; have := S12.out; have := S13.out; have := Tw.out; have := Tx0.out; have := Tg.out; omega)))
  clear Ow
  have Ow := Ow'
  clear Ow'
  have S14 := Lib.hid hb.size
  have B14 := Lib.hid (B13.out.trans (hb.mono B13.out.size))
  have BXw' := Lib.hid (BXw.out.next hb)
  clear BXw
  have BXw := BXw'
  clear BXw'
  have BXg' := Lib.hid (BXg.out.next hb)
  clear BXg
  have BXg := BXg'
  clear BXg'
  clear hb B13
  have Og := Og_
  clear Og_
  obtain ⟨k0_0, k0_1, k0_2, k0_3, k0_4, k0_5, k0_6⟩ := (hcl0 _ B14.out).seven
  go_wp2_with fail
  clear k0_0 k0_1 k0_2 k0_3 k0_4 k0_5 k0_6
  refine (toMachine_any _ m _ ((H0.out.below (((Below.refl _ _).alloc (by first | exact Nat.le_refl _ | (simp; done) | (simp; omega)) _).trans (B14.out.mono (by first | (simp; done) | (simp; omega))))).more (((Below.refl _ _).alloc (by first | exact Nat.le_refl _ | (simp; done) | (simp; omega)) _).trans (B14.out.mono (by first | (simp; done) | (simp; omega)))).size) s0.out).mono ?_
  rintro e w15 ⟨vz0, rfl, ho, hb⟩
  obtain ⟨AFz0, cFz0, AGz0, cGz0, ACz0, cCz0, AIz0, cIz0, ADz0, cDz0, rfl⟩ := OwM.shape ho
  have Ow' := Lib.hid (Ow.out.below (hb.mono (by have := S1.out; have := S2.out; have := S3.out; have := S4.out; have := S5.out; have := S6.out; have := S7.out; have := S8.out; have := S9.out; have := S10.out; have := S11.out; have := S12.out; have := S13.out; have := S14.out; have := Tw.out; have := Tx0.out; have := Tg.out; omega)))
  have Og' := Lib.hid (OmMs.below Og.out (hb.mono (by have := S1.out; have := S2.out; have := S3.out; have := S4.out; have := S5.out; have := S6.out; have := S7.out; have := S8.out; have := S9.out; have := S10.out; have := S11.out; have := S12.out; have := S13.out; have := S14.out; have := Tw.out; have := Tx0.out; have := Tg.out; omega)))
  clear Ow Og
  have Ow := Ow'
  have Og := Og'
  clear Ow' Og'
  have S15 := Lib.hid hb.size
  have B15 := Lib.hid (B14.out.trans (hb.mono B14.out.size))
  have BXw' := Lib.hid (BXw.out.next hb)
  clear BXw
  have BXw := BXw'
  clear BXw'
  have BXg' := Lib.hid (BXg.out.next hb)
  clear BXg
  have BXg := BXg'
  clear BXg'
  have Oz0 : Hid (OwM _ _ _ _ (m)) := ho
  clear ho
  clear hb B14
  go_wp2_with fail
  refine (implUnkTo_any _ m k _ ((RdM.of_own Oz0.out).more (by have := S1.out; have := S2.out; have := S3.out; have := S4.out; have := S5.out; have := S6.out; have := S7.out; have := S8.out; have := S9.out; have := S10.out; have := S11.out; have := S12.out; have := S13.out; have := S14.out; have := S15.out; have := Tw.out; have := Tx0.out; have := Tg.out; omega)) s0.out).mono ?_
  rintro e w16 ⟨vh, rfl, ho, hb⟩
  obtain ⟨AFh, cFh, AGh, cGh, ACh, cCh, AIh, cIh, ADh, cDh, rfl⟩ := OwMs.shape ho
  have Ow' := Lib.hid (Ow.out.below (hb.mono (by have := S1.out; have := S2.out; have := S3.out; have := S4.out; have := S5.out; have := S6.out; have := S7.out; have := S8.out; have := S9.out; have := S10.out; have := S11.out; have := S12.out; have := S13.out; have := S14.out; have := S15.out; have := Tw.out; have := Tx0.out; have := Tg.out; omega)))
  have Og' := Lib.hid (OmMs.below Og.out (hb.mono (by have := S1.out; have := S2.out; have := S3.out; have := S4.out; have := S5.out; have := S6.out; have := S7.out; have := S8.out; have := S9.out; have := S10.out; have := S11.out; have := S12.out; have := S13.out; have := S14.out; have := S15.out; have := Tw.out; have := Tx0.out; have := Tg.out; omega)))
  have Oz0' := Lib.hid (Oz0.out.below (hb.mono (by have := S1.out; have := S2.out; have := S3.out; have := S4.out; have := S5.out; have := S6.out; have := S7.out; have := S8.out; have := S9.out; have := S10.out; have := S11.out; have := S12.out; have := S13.out; have := S14.out; have := S15.out; have := Tw.out; have := Tx0.out; have := Tg.out; omega)))
  clear Ow Og Oz0
  have Ow := Ow'
  have Og := Og'
  have Oz0 := Oz0'
  clear Ow' Og' Oz0'
  have S16 := Lib.hid hb.size
  have B16 := Lib.hid (B15.out.trans (hb.mono B15.out.size))
  have BXw' := Lib.hid (BXw.out.next hb)
  clear BXw
  have BXw := BXw'
  clear BXw'
  have BXg' := Lib.hid (BXg.out.next hb)
  clear BXg
  have BXg := BXg'
  clear BXg'
  have Oh : Hid (OwMs _ _ _ _ (utR m k)) := ho
  clear ho
  clear hb B15
  have hb : Below w16.heap.size w16 (w16.alloc (.cells #[.int .i64 (utR m k).wd, .int .i64 (utR m k).rk, .slice AFh (utR m k).fr.length cFh, .slice AGh (utR m k).bk.length cGh, .slice ACh (utR m k).cs.length cCh, .slice AIh (utR m k).ls.length cIh, .slice ADh (utR m k).dr.length cDh] 32)) := (Below.refl _ _).alloc (Nat.le_refl _) _
  have Ow' := Lib.hid (Ow.out.below (hb.mono (by have := S1.out; have := S2.out; have := S3.out; have := S4.out; have := S5.out; have := S6.out; have := S7.out; have := S8.out; have := S9.out; have := S10.out; have := S11.out; have := S12.out; have := S13.out; have := S14.out; have := S15.out; have := S16.out; have := Tw.out; have := Tx0.out; have := Tg.out; omega)))
  have Og' := Lib.hid (OmMs.below Og.out (hb.mono (by have := S1.out; have := S2.out; have := S3.out; have := S4.out; have := S5.out; have := S6.out; have := S7.out; have := S8.out; have := S9.out; have := S10.out; have := S11.out; have := S12.out; have := S13.out; have := S14.out; have := S15.out; have := S16.out; have := Tw.out; have := Tx0.out; have := Tg.out; omega)))
  have Oz0' := Lib.hid (Oz0.out.below (hb.mono (by have := S1.out; have := S2.out; have := S3.out; have := S4.out; have := S5.out; have := S6.out; have := S7.out; have := S8.out; have := S9.out; have := S10.out; have := S11.out; have := S12.out; have := S13.out; have := S14.out; have := S15.out; have := S16.out; have := Tw.out; have := Tx0.out; have := Tg.out; omega)))
  have Oh' := Lib.hid (Oh.out.below (hb.mono (by have := S1.out; have := S2.out; have := S3.out; have := S4.out; have := S5.out; have := S6.out; have := S7.out; have := S8.out; have := S9.out; have := S10.out; have := S11.out; have := S12.out; have := S13.out; have := S14.out; have := S15.out; have := S16.out; have := Tw.out; have := Tx0.out; have := Tg.out; omega)))
  clear Ow Og Oz0 Oh
  have Ow := Ow'
  have Og := Og'
  have Oz0 := Oz0'
  have Oh := Oh'
  clear Ow' Og' Oz0' Oh'
  have S17 := Lib.hid hb.size
  have B17 := Lib.hid (B16.out.trans (hb.mono B16.out.size))
  have BXw' := Lib.hid (BXw.out.next hb)
  clear BXw
  have BXw := BXw'
  clear BXw'
  have BXg' := Lib.hid (BXg.out.next hb)
  clear BXg
  have BXg := BXg'
  clear BXg'
  clear hb B16
  have hqh : CellsAt (w16.alloc (.cells #[.int .i64 (utR m k).wd, .int .i64 (utR m k).rk, .slice AFh (utR m k).fr.length cFh, .slice AGh (utR m k).bk.length cGh, .slice ACh (utR m k).cs.length cCh, .slice AIh (utR m k).ls.length cIh, .slice ADh (utR m k).dr.length cDh] 32)) w16.heap.size 0 [.int .i64 (utR m k).wd, .int .i64 (utR m k).rk, .slice AFh (utR m k).fr.length cFh, .slice AGh (utR m k).bk.length cGh, .slice ACh (utR m k).cs.length cCh, .slice AIh (utR m k).ls.length cIh, .slice ADh (utR m k).dr.length cDh] := by
    intro j u hu
    rcases j with _ | _ | _ | _ | _ | _ | _ | j <;> simp at hu <;> subst hu <;> simp [go_sem]
  have hclh : ∀ w1, Kept w16.heap.size (w16.alloc (.cells #[.int .i64 (utR m k).wd, .int .i64 (utR m k).rk, .slice AFh (utR m k).fr.length cFh, .slice AGh (utR m k).bk.length cGh, .slice ACh (utR m k).cs.length cCh, .slice AIh (utR m k).ls.length cIh, .slice ADh (utR m k).dr.length cDh] 32)) w1 → CellsAt w1 w16.heap.size 0 [.int .i64 (utR m k).wd, .int .i64 (utR m k).rk, .slice AFh (utR m k).fr.length cFh, .slice AGh (utR m k).bk.length cGh, .slice ACh (utR m k).cs.length cCh, .slice AIh (utR m k).ls.length cIh, .slice ADh (utR m k).dr.length cDh] := fun w1 hb1 => hb1.cells hqh
  clear hqh
  have BXh : Hid (Kept w16.heap.size (w16.alloc (.cells #[.int .i64 (utR m k).wd, .int .i64 (utR m k).rk, .slice AFh (utR m k).fr.length cFh, .slice AGh (utR m k).bk.length cGh, .slice ACh (utR m k).cs.length cCh, .slice AIh (utR m k).ls.length cIh, .slice ADh (utR m k).dr.length cDh] 32)) (w16.alloc (.cells #[.int .i64 (utR m k).wd, .int .i64 (utR m k).rk, .slice AFh (utR m k).fr.length cFh, .slice AGh (utR m k).bk.length cGh, .slice ACh (utR m k).cs.length cCh, .slice AIh (utR m k).ls.length cIh, .slice ADh (utR m k).dr.length cDh] 32))) := Kept.refl (by simp)
  have Th : Hid (w16.heap.size < (w16.alloc (.cells #[.int .i64 (utR m k).wd, .int .i64 (utR m k).rk, .slice AFh (utR m k).fr.length cFh, .slice AGh (utR m k).bk.length cGh, .slice ACh (utR m k).cs.length cCh, .slice AIh (utR m k).ls.length cIh, .slice ADh (utR m k).dr.length cDh] 32)).heap.size) := BXh.out.lt
  clear Oz0
  obtain ⟨kw_0, kw_1, kw_2, kw_3, kw_4, kw_5, kw_6⟩ := (hclw _ BXw.out).seven
  obtain ⟨kh_0, kh_1, kh_2, kh_3, kh_4, kh_5, kh_6⟩ := (hclh _ BXh.out).seven
  go_wp2_with fail
  clear kw_0 kw_1 kw_2 kw_3 kw_4 kw_5 kw_6
  clear kh_0 kh_1 kh_2 kh_3 kh_4 kh_5 kh_6
  refine (eqMachine_same _ _ (utR m k) _ ((OwMs.rd Oh.out).more (by have := S1.out; have := S2.out; have := S3.out; have := S4.out; have := S5.out; have := S6.out; have := S7.out; have := S8.out; have := S9.out; have := S10.out; have := S11.out; have := S12.out; have := S13.out; have := S14.out; have := S15.out; have := S16.out; have := S17.out; have := Tw.out; have := Tx0.out; have := Tg.out; have := Th.out; omega)) ((OwMs.rd Ow.out).more (by have := S1.out; have := S2.out; have := S3.out; have := S4.out; have := S5.out; have := S6.out; have := S7.out; have := S8.out; have := S9.out; have := S10.out; have := S11.out; have := S12.out; have := S13.out; have := S14.out; have := S15.out; have := S16.out; have := S17.out; have := Tw.out; have := Tx0.out; have := Tg.out; have := Th.out; omega))).mono ?_
  rintro e w18 ⟨rfl, hb⟩
  have Ow' := Lib.hid (Ow.out.below (hb.mono (by have := S1.out; have := S2.out; have := S3.out; have := S4.out; have := S5.out; have := S6.out; have := S7.out; have := S8.out; have := S9.out; have := S10.out; have := S11.out; have := S12.out; have := S13.out; have := S14.out; have := S15.out; have := S16.out; have := S17.out; have := Tw.out; have := Tx0.out; have := Tg.out; have := Th.out; omega)))
  have Og' := Lib.hid (OmMs.below Og.out (hb.mono (by have := S1.out; have := S2.out; have := S3.out; have := S4.out; have := S5.out; have := S6.out; have := S7.out; have := S8.out; have := S9.out; have := S10.out; have := S11.out; have := S12.out; have := S13.out; have := S14.out; have := S15.out; have := S16.out; have := S17.out; have := Tw.out; have := Tx0.out; have := Tg.out; have := Th.out; omega)))
  have Oh' := Lib.hid (Oh.out.below (hb.mono (by have := S1.out; have := S2.out; have := S3.out; have := S4.out; have := S5.out; have := S6.out; have := S7.out; have := S8.out; have := S9.out; have := S10.out; have := S11.out; have := S12.out; have := S13.out; have := S14.out; have := S15.out; have := S16.out; have := S17.out; have := Tw.out; have := Tx0.out; have := Tg.out; have := Th.out; omega)))
  clear Ow Og Oh
  have Ow := Ow'
  have Og := Og'
  have Oh := Oh'
  clear Ow' Og' Oh'
  have S18 := Lib.hid hb.size
  have B18 := Lib.hid (B17.out.trans (hb.mono B17.out.size))
  have BXw' := Lib.hid (BXw.out.next hb)
  clear BXw
  have BXw := BXw'
  clear BXw'
  have BXg' := Lib.hid (BXg.out.next hb)
  clear BXg
  have BXg := BXg'
  clear BXg'
  have BXh' := Lib.hid (BXh.out.next hb)
  clear BXh
  have BXh := BXh'
  clear BXh'
  clear hb B17
  clear Oh
  clear Ow
  obtain ⟨kg_0, kg_1, kg_2, kg_3, kg_4, kg_5, kg_6⟩ := (hclg _ BXg.out).seven
  go_wp2_with fail
  clear kg_0 kg_1 kg_2 kg_3 kg_4 kg_5 kg_6
  refine (heldMs_any _ _ _ _ _ Og.out sr.out.1 sr.out.2).mono ?_
  rintro e w19 ⟨rfl, hb⟩
  have Og' := Lib.hid (OmMs.below Og.out (hb.mono (by have := S1.out; have := S2.out; have := S3.out; have := S4.out; have := S5.out; have := S6.out; have := S7.out; have := S8.out; have := S9.out; have := S10.out; have := S11.out; have := S12.out; have := S13.out; have := S14.out; have := S15.out; have := S16.out; have := S17.out; have := S18.out; have := Tw.out; have := Tx0.out; have := Tg.out; have := Th.out; omega)))
  clear Og
  have Og_ := Og'
  clear Og'
  have S19 := Lib.hid hb.size
  have B19 := Lib.hid (B18.out.trans (hb.mono B18.out.size))
  have BXg' := Lib.hid (BXg.out.next hb)
  clear BXg
  have BXg := BXg'
  clear BXg'
  clear hb B18
  have Og := Og_
  clear Og_
  go_wp2
  go_ret
  exact ⟨rfl, (((Below.refl _ _).alloc (by first | exact Nat.le_refl _ | (simp; done) | (simp; omega)) _).trans (B19.out.mono (by first | (simp; done) | (simp; omega))))⟩

set_option maxRecDepth 100000 in
theorem FnExactUnknitTo.walk {H : Type} {enc : TypeId × Value → H} {base : Nat} {d0 : DataW H} {p0 : List MemPlace} {d1 : DataW H} {p1 : List MemPlace} (W : World) (v0 : Value) (v1 : Value) (o0 : Value.okWide Try.prog W .any base 27 v0) (o1 : Value.okWide Try.prog W .any base 2 v1)
    (h0 : DataW.Trod enc Try.prog W 0 (fun _ => true) true 27 v0 d0 p0) (h1 : DataW.Trod enc Try.prog W 0 (fun _ => true) true 2 v1 d1 p1) : Calls Try.prog 4 #[v0, v1] W fun e W' => e = .returned (.bool true) ∧ Below W.heap.size W W' := by
  obtain ⟨m, k0, _⟩ := open_machine o0 h0
  obtain ⟨k, rfl, rfl, rfl, w1⟩ := open_int Try.underlying2 o1 h1
  exact FnExactUnknitTo.core v0 m k W k0

namespace FnExactUnknitTo
theorem own : ownKnob Try.prog.godebug = none := by kernel_rfl
theorem laidOut : laidOutB Try.prog = true := by kernel_rfl

set_option maxRecDepth 100000 in
theorem lifted (os : Os) (started : os.Started) (H : Type) (enc : TypeId × Value → H) :
    ReturnsInHanded {} Try.checked os 4 .any (Rows.fnExactUnknitToSpec.pre6 enc Try.prog Try.f4 Rows.fnExactUnknitToRow.domain false) (Rows.fnExactUnknitToSpec.post enc Try.prog Try.f4 false true false false) := by
  refine returnsInHanded_of_change (C := Try.checked) own started (by kernel_rfl) Try.func4
    (ChangeSpec.witness6 (enc := enc) (C := Try.checked) false ⟨#[], #[.agg #[.int .i64 0, .int .i64 0, .slice none 0 0, .slice none 0 0, .slice none 0 0, .slice none 0 0, .slice none 0 0], .int .i64 0], []⟩ 8 (by kernel_rfl) (by kernel_rfl) (by kernel_rfl) (by kernel_rfl)) ?_
  intro W base args ds gs before hval0 hW hcnd _
  have hval : ∀ (j : Nat) t v, Try.f4.params[j]? = some t → args[j]? = some v → Value.okWide Try.prog W .any base t v := hval0
  have hW' := hW
  obtain ⟨p, q, hA0, hV, rfl, hfz, hnd⟩ := hW
  have hA : DataW.TrodAll enc Try.prog W 0 (fun _ => true) true Try.f4.params.toList args.toList ds p := hA0
  rw [Try.params4] at hA hval
  obtain ⟨v0, vs0, d0, ds0, p0, q0, hargs, rfl, rfl, h0, r0⟩ := trodAll_cons hA
  obtain ⟨v1, vs1, d1, ds1, p1, q1, rfl, rfl, rfl, h1, r1⟩ := trodAll_cons r0
  obtain ⟨rfl, rfl, rfl⟩ := trodAll_nil r1
  obtain rfl : args = #[v0, v1] := by cases args; simp_all
  obtain ⟨rfl, rfl⟩ := trodVars_none hV
  have k0 := h0
  have lt0 : ∀ x ∈ p0, x.block < W.heap.size := by obtain ⟨m, hm⟩ := k0; exact DataW.trod_lt m _ _ _ hm
  have k1 := h1
  have lt1 : ∀ x ∈ p1, x.block < W.heap.size := by obtain ⟨m, hm⟩ := k1; exact DataW.trod_lt m _ _ _ hm
  clear hA0 hval0
  refine (walk W v0 v1 (hval 0 _ v0 rfl rfl) (hval 1 _ v1 rfl rfl) h0 h1).mono fun e W' ⟨he, bel⟩ => ?_
  subst he
  exact ⟨_, rfl, _, _, _, [], _, [], hW', trodAll_mk1 (shut_bool Try.underlying4 _), (trodAll_cons_mk (Below.trod laidOut (by kernel_rfl) (of_decide_eq_true (by kernel_rfl)) k0 bel lt0) (trodAll_cons_mk (Below.trod laidOut (by kernel_rfl) (of_decide_eq_true (by kernel_rfl)) k1 bel lt1) trodAll_mk0)), rfl, bel.frame _, fun h => by cases h⟩

theorem over : Rows.fnExactUnknitToRow.holds Try.pinned (OpenSpec.ofChange Rows.fnExactUnknitToSpec) :=
  OpenClaim.holds_of_wide 4 Try.f4 rfl rfl rfl rfl rfl rfl rfl ⟨rfl, rfl, rfl, rfl, rfl⟩ rfl rfl rfl rfl rfl (by kernel_rfl) Try.func4 (by kernel_rfl)
    (of_decide_eq_true (by kernel_rfl)) (by unfold Func.isWrapper; first | (rw [if_pos (by decide +kernel)]; kernel_rfl) | (rw [if_neg (by decide +kernel)]; exact ⟨rfl, rfl⟩))
    (fun os started H enc _ => lifted os started H enc)

theorem proved : Rows.FnExactUnknitToSaid := over
end FnExactUnknitTo

end Go.Proofs.Ytmcalioldphfeaa
