/-
  The program's SortTransfers returns what the reference's returns, for every list of operations; no condition.
-/
import Derived.Test.YtolcgopfbbmjgaaPk10
import Derived.Test.YtolcgopfbbmjgaaPk2
import Derived.Test.YtolcgopfbbmjgaaOpS
import Derived.Test.YtolcgopfbbmjgaaMark
import Derived.Test.YtolcgopfbbmjgaaKept
import Derived.Deep.RegionHeld3
import Derived.Deep.RegionWith
import Derived.Deep.Cut
namespace Go.Proofs.Ytolcgopfbbmjgaa
set_option linter.unusedVariables false
set_option linter.unusedSimpArgs false
open Go.ChangeShapes Go.WideShapes Go.ChangeAt Go.RowKit
open Go.ChangeMaps (open_string shut_string)

set_option maxHeartbeats 8000000 in
set_option maxRecDepth 100000 in
theorem FnExactSortTransfers.core (v0 : Value) (l : List Opr) (W : World) (hl0 : RdO W W.heap.size v0 l) :
    Calls Try.prog 3 #[v0] W fun e W' => e = .returned (.bool true) ∧ Below W.heap.size W W' := by
  have H0 := Lib.hid hl0
  clear hl0
  obtain ⟨z0, e0⟩ : ∃ z, szOf 1048576 l.length = z := ⟨_, rfl⟩
  have E0 := Lib.hid e0
  clear e0
  by_cases p0 : 0 ≤ z0
  case neg =>
    have q0 : z0 < 0 := by omega
    clear p0
    go_enter Try.func3, Try.ntmps3
    go_wp2_with fail
    refine (szOpS_any _ l 1048576 _ _ H0.out (by omega) (by omega)).mono ?_
    rintro e w' ⟨rfl, rfl⟩
    rw [E0.out]
    go_wp2
    go_ret
    exact ⟨rfl, (Below.refl _ _)⟩
  obtain ⟨f0, g0⟩ := szOf_pos' E0.out p0
  have s0 := Lib.hid (show (l).length ≤ 1048576 by omega)
  have u0 : z0 ≤ 1048576 := by omega
  clear f0 g0
  have sr : Hid ((srtR l).length ≤ 1048576) := srtR_len l
  go_enter Try.func3, Try.ntmps3
  go_wp2_with fail
  refine (szOpS_any _ l 1048576 _ _ H0.out (by omega) (by omega)).mono ?_
  rintro e w' ⟨rfl, rfl⟩
  rw [E0.out]
  go_wp2_with fail
  refine (toOpS_any _ l _ H0.out s0.out).mono ?_
  rintro e w1 ⟨va0, rfl, ho, hb⟩
  have S1 := Lib.hid hb.size
  have B1 := Lib.hid (hb)
  have Oa0 := Lib.hid ho
  clear ho
  clear hb
  go_wp2_with fail
  refine (specSrt_any _ l _ ((RdS.of_own Opr.len Oa0.out).more (by have := S1.out; omega))).mono ?_
  rintro e w2 ⟨vw, rfl, ho, hb⟩
  have Oa0' := Lib.hid (Oa0.out.below (hb.mono (by have := S1.out; omega)))
  clear Oa0
  have Oa0 := Oa0'
  clear Oa0'
  have S2 := Lib.hid hb.size
  have B2 := Lib.hid (B1.out.trans (hb.mono B1.out.size))
  have Ow := Lib.hid ho
  clear ho
  clear hb B1
  clear Oa0
  go_wp2_with fail
  refine (toOpS_any _ l _ ((H0.out.below B2.out).more B2.out.size) s0.out).mono ?_
  rintro e w3 ⟨vx0, rfl, ho, hb⟩
  have Ow' := Lib.hid (Ow.out.below (hb.mono (by have := S1.out; have := S2.out; omega)))
  clear Ow
  have Ow := Ow'
  clear Ow'
  have S3 := Lib.hid hb.size
  have B3 := Lib.hid (B2.out.trans (hb.mono B2.out.size))
  have Ox0 := Lib.hid ho
  clear ho
  clear hb B2
  go_wp2_with fail
  refine (implSrt_any _ l _ ((RdS.of_own Opr.len Ox0.out).more (by have := S1.out; have := S2.out; have := S3.out; omega))).mono ?_
  rintro e w4 ⟨vg, rfl, ho, hb⟩
  have Ow' := Lib.hid (Ow.out.below (hb.mono (by have := S1.out; have := S2.out; have := S3.out; omega)))
  have Ox0' := Lib.hid (Ox0.out.below (hb.mono (by have := S1.out; have := S2.out; have := S3.out; omega)))
  clear Ow Ox0
  have Ow := Ow'
  have Ox0 := Ox0'
  clear Ow' Ox0'
  have S4 := Lib.hid hb.size
  have B4 := Lib.hid (B3.out.trans (hb.mono B3.out.size))
  have Og := Lib.hid ho
  clear ho
  clear hb B3
  go_wp2_with fail
  refine (eqOpS_any _ _ (srtR l) (srtR l) _ _ ((RdS.of_own Opr.len Og.out).more (by have := S1.out; have := S2.out; have := S3.out; have := S4.out; omega)) ((RdS.of_own Opr.len Ow.out).more (by have := S1.out; have := S2.out; have := S3.out; have := S4.out; omega)) (Nat.le_refl _)).mono ?_
  rintro e w5 ⟨rfl, hb⟩
  have Ow' := Lib.hid (Ow.out.below (hb.mono (by have := S1.out; have := S2.out; have := S3.out; have := S4.out; omega)))
  have Ox0' := Lib.hid (Ox0.out.below (hb.mono (by have := S1.out; have := S2.out; have := S3.out; have := S4.out; omega)))
  have Og' := Lib.hid (Og.out.below (hb.mono (by have := S1.out; have := S2.out; have := S3.out; have := S4.out; omega)))
  clear Ow Ox0 Og
  have Ow := Ow'
  have Ox0 := Ox0'
  have Og := Og'
  clear Ow' Ox0' Og'
  have S5 := Lib.hid hb.size
  have B5 := Lib.hid (B4.out.trans (hb.mono B4.out.size))
  clear hb B4
  go_wp2_with fail
  refine (toOpS_any _ l _ ((H0.out.below B5.out).more B5.out.size) s0.out).mono ?_
  rintro e w6 ⟨vy0, rfl, ho, hb⟩
  have Ow' := Lib.hid (Ow.out.below (hb.mono (by have := S1.out; have := S2.out; have := S3.out; have := S4.out; have := S5.out; omega)))
  have Ox0' := Lib.hid (Ox0.out.below (hb.mono (by have := S1.out; have := S2.out; have := S3.out; have := S4.out; have := S5.out; omega)))
  have Og' := Lib.hid (Og.out.below (hb.mono (by have := S1.out; have := S2.out; have := S3.out; have := S4.out; have := S5.out; omega)))
  clear Ow Ox0 Og
  have Ow := Ow'
  have Ox0 := Ox0'
  have Og := Og'
  clear Ow' Ox0' Og'
  have S6 := Lib.hid hb.size
  have B6 := Lib.hid (B5.out.trans (hb.mono B5.out.size))
  have Oy0 := Lib.hid ho
  clear ho
  clear hb B5
  go_wp2_with fail
  refine (eqOpS_any _ _ (l) (l) _ _ ((RdS.of_own Opr.len Ox0.out).more (by have := S1.out; have := S2.out; have := S3.out; have := S4.out; have := S5.out; have := S6.out; omega)) ((RdS.of_own Opr.len Oy0.out).more (by have := S1.out; have := S2.out; have := S3.out; have := S4.out; have := S5.out; have := S6.out; omega)) (Nat.le_refl _)).mono ?_
  rintro e w7 ⟨rfl, hb⟩
  have Ow' := Lib.hid (Ow.out.below (hb.mono (by have := S1.out; have := S2.out; have := S3.out; have := S4.out; have := S5.out; have := S6.out; omega)))
  have Ox0' := Lib.hid (Ox0.out.below (hb.mono (by have := S1.out; have := S2.out; have := S3.out; have := S4.out; have := S5.out; have := S6.out; omega)))
  have Og' := Lib.hid (Og.out.below (hb.mono (by have := S1.out; have := S2.out; have := S3.out; have := S4.out; have := S5.out; have := S6.out; omega)))
  have Oy0' := Lib.hid (Oy0.out.below (hb.mono (by have := S1.out; have := S2.out; have := S3.out; have := S4.out; have := S5.out; have := S6.out; omega)))
  clear Ow Ox0 Og Oy0
  have Ow := Ow'
  have Ox0 := Ox0'
  have Og := Og'
  have Oy0 := Oy0'
  clear Ow' Ox0' Og' Oy0'
  have S7 := Lib.hid hb.size
  have B7 := Lib.hid (B6.out.trans (hb.mono B6.out.size))
  clear hb B6
  clear Oy0
  go_wp2_with fail
  refine (markO_any _ _ _ _ _ _ _ Ox0.out (by omega) (by have := sr.out; have := s0.out; omega)).mono ?_
  rintro e w8 ⟨rfl, ho, hb⟩
  have Ow' := Lib.hid (Ow.out.only hb (by have := S1.out; have := S2.out; have := S3.out; have := S4.out; have := S5.out; have := S6.out; have := S7.out; omega) (by have := S1.out; have := S2.out; have := S3.out; have := S4.out; have := S5.out; have := S6.out; have := S7.out; omega))
  have Og' := Lib.hid (Og.out.only hb (by have := S1.out; have := S2.out; have := S3.out; have := S4.out; have := S5.out; have := S6.out; have := S7.out; omega) (by have := S1.out; have := S2.out; have := S3.out; have := S4.out; have := S5.out; have := S6.out; have := S7.out; omega))
  clear Ow Og
  have Ow := Ow'
  have Og := Og'
  clear Ow' Og'
  have S8 : Hid (w7.heap.size ≤ w8.heap.size) := hb.size
  have B8 := Lib.hid (B7.out.trans (hb.below (by have := S1.out; have := S2.out; have := S3.out; have := S4.out; have := S5.out; have := S6.out; have := S7.out; have := S8.out; omega) (by have := S1.out; have := S2.out; have := S3.out; have := S4.out; have := S5.out; have := S6.out; have := S7.out; have := S8.out; omega)))
  clear Ox0
  have Ox0 := Lib.hid ho
  clear ho hb B7
  clear Ox0
  go_wp2_with fail
  refine (eqOpS_any _ _ (srtR l) (srtR l) _ _ ((RdS.of_own Opr.len Og.out).more (by have := S1.out; have := S2.out; have := S3.out; have := S4.out; have := S5.out; have := S6.out; have := S7.out; have := S8.out; omega)) ((RdS.of_own Opr.len Ow.out).more (by have := S1.out; have := S2.out; have := S3.out; have := S4.out; have := S5.out; have := S6.out; have := S7.out; have := S8.out; omega)) (Nat.le_refl _)).mono ?_
  rintro e w9 ⟨rfl, hb⟩
  have Ow' := Lib.hid (Ow.out.below (hb.mono (by have := S1.out; have := S2.out; have := S3.out; have := S4.out; have := S5.out; have := S6.out; have := S7.out; have := S8.out; omega)))
  have Og' := Lib.hid (Og.out.below (hb.mono (by have := S1.out; have := S2.out; have := S3.out; have := S4.out; have := S5.out; have := S6.out; have := S7.out; have := S8.out; omega)))
  clear Ow Og
  have Ow := Ow'
  have Og := Og'
  clear Ow' Og'
  have S9 := Lib.hid hb.size
  have B9 := Lib.hid (B8.out.trans (hb.mono B8.out.size))
  clear hb B8
  go_wp2_with fail
  refine (markO_any _ _ _ _ _ _ _ Og.out (by omega) (by have := sr.out; have := s0.out; omega)).mono ?_
  rintro e w10 ⟨rfl, ho, hb⟩
  have Ow' := Lib.hid (Ow.out.only hb (by have := S1.out; have := S2.out; have := S3.out; have := S4.out; have := S5.out; have := S6.out; have := S7.out; have := S8.out; have := S9.out; omega) (by have := S1.out; have := S2.out; have := S3.out; have := S4.out; have := S5.out; have := S6.out; have := S7.out; have := S8.out; have := S9.out; omega))
  clear Ow
  have Ow := Ow'
  clear Ow'
  have S10 : Hid (w9.heap.size ≤ w10.heap.size) := hb.size
  have B10 := Lib.hid (B9.out.trans (hb.below (by have := S1.out; have := S2.out; have := S3.out; have := S4.out; have := S5.out; have := S6.out; have := S7.out; have := S8.out; have := S9.out; have := S10.out; omega) (by have := S1.out; have := S2.out; have := S3.out; have := S4.out; have := S5.out; have := S6.out; have := S7.out; have := S8.out; have := S9.out; have := S10.out; omega)))
  clear Og
  have Og := Lib.hid ho
  clear ho hb B9
  go_wp2_with fail
  refine (heldO_any _ _ _ _ _ _ Og.out (by omega) (by have := sr.out; have := s0.out; omega)).mono ?_
  rintro e w' ⟨rfl, rfl⟩
  go_wp2_with fail
  refine (toOpS_any _ l _ ((H0.out.below B10.out).more B10.out.size) s0.out).mono ?_
  rintro e w11 ⟨vz0, rfl, ho, hb⟩
  have Ow' := Lib.hid (Ow.out.below (hb.mono (by have := S1.out; have := S2.out; have := S3.out; have := S4.out; have := S5.out; have := S6.out; have := S7.out; have := S8.out; have := S9.out; have := S10.out; omega)))
  have Og' := Lib.hid (Og.out.below (hb.mono (by have := S1.out; have := S2.out; have := S3.out; have := S4.out; have := S5.out; have := S6.out; have := S7.out; have := S8.out; have := S9.out; have := S10.out; omega)))
  clear Ow Og
  have Ow := Ow'
  have Og := Og'
  clear Ow' Og'
  have S11 := Lib.hid hb.size
  have B11 := Lib.hid (B10.out.trans (hb.mono B10.out.size))
  have Oz0 := Lib.hid ho
  clear ho
  clear hb B10
  go_wp2_with fail
  refine (implSrt_any _ l _ ((RdS.of_own Opr.len Oz0.out).more (by have := S1.out; have := S2.out; have := S3.out; have := S4.out; have := S5.out; have := S6.out; have := S7.out; have := S8.out; have := S9.out; have := S10.out; have := S11.out; omega))).mono ?_
  rintro e w12 ⟨vh, rfl, ho, hb⟩
  have Ow' := Lib.hid (Ow.out.below (hb.mono (by have := S1.out; have := S2.out; have := S3.out; have := S4.out; have := S5.out; have := S6.out; have := S7.out; have := S8.out; have := S9.out; have := S10.out; have := S11.out; omega)))
  have Og' := Lib.hid (Og.out.below (hb.mono (by have := S1.out; have := S2.out; have := S3.out; have := S4.out; have := S5.out; have := S6.out; have := S7.out; have := S8.out; have := S9.out; have := S10.out; have := S11.out; omega)))
  have Oz0' := Lib.hid (Oz0.out.below (hb.mono (by have := S1.out; have := S2.out; have := S3.out; have := S4.out; have := S5.out; have := S6.out; have := S7.out; have := S8.out; have := S9.out; have := S10.out; have := S11.out; omega)))
  clear Ow Og Oz0
  have Ow := Ow'
  have Og := Og'
  have Oz0 := Oz0'
  clear Ow' Og' Oz0'
  have S12 := Lib.hid hb.size
  have B12 := Lib.hid (B11.out.trans (hb.mono B11.out.size))
  have Oh := Lib.hid ho
  clear ho
  clear hb B11
  clear Oz0
  go_wp2_with fail
  refine (eqOpS_any _ _ (srtR l) (srtR l) _ _ ((RdS.of_own Opr.len Oh.out).more (by have := S1.out; have := S2.out; have := S3.out; have := S4.out; have := S5.out; have := S6.out; have := S7.out; have := S8.out; have := S9.out; have := S10.out; have := S11.out; have := S12.out; omega)) ((RdS.of_own Opr.len Ow.out).more (by have := S1.out; have := S2.out; have := S3.out; have := S4.out; have := S5.out; have := S6.out; have := S7.out; have := S8.out; have := S9.out; have := S10.out; have := S11.out; have := S12.out; omega)) (Nat.le_refl _)).mono ?_
  rintro e w13 ⟨rfl, hb⟩
  have Ow' := Lib.hid (Ow.out.below (hb.mono (by have := S1.out; have := S2.out; have := S3.out; have := S4.out; have := S5.out; have := S6.out; have := S7.out; have := S8.out; have := S9.out; have := S10.out; have := S11.out; have := S12.out; omega)))
  have Og' := Lib.hid (Og.out.below (hb.mono (by have := S1.out; have := S2.out; have := S3.out; have := S4.out; have := S5.out; have := S6.out; have := S7.out; have := S8.out; have := S9.out; have := S10.out; have := S11.out; have := S12.out; omega)))
  have Oh' := Lib.hid (Oh.out.below (hb.mono (by have := S1.out; have := S2.out; have := S3.out; have := S4.out; have := S5.out; have := S6.out; have := S7.out; have := S8.out; have := S9.out; have := S10.out; have := S11.out; have := S12.out; omega)))
  clear Ow Og Oh
  have Ow := Ow'
  have Og := Og'
  have Oh := Oh'
  clear Ow' Og' Oh'
  have S13 := Lib.hid hb.size
  have B13 := Lib.hid (B12.out.trans (hb.mono B12.out.size))
  clear hb B12
  clear Oh
  clear Ow
  go_wp2_with fail
  refine (heldO_any _ _ _ _ _ _ Og.out (by omega) (by have := sr.out; have := s0.out; omega)).mono ?_
  rintro e w' ⟨rfl, rfl⟩
  go_wp2
  go_ret
  exact ⟨rfl, B13.out⟩

set_option maxRecDepth 100000 in
theorem FnExactSortTransfers.walk {H : Type} {enc : TypeId × Value → H} {base : Nat} {d0 : DataW H} {p0 : List MemPlace} (W : World) (v0 : Value) (o0 : Value.okWide Try.prog W .any base 22 v0)
    (h0 : DataW.Trod enc Try.prog W 0 (fun _ => true) true 22 v0 d0 p0) : Calls Try.prog 3 #[v0] W fun e W' => e = .returned (.bool true) ∧ Below W.heap.size W W' := by
  obtain ⟨l, k0, _⟩ := open_ops o0 h0
  exact FnExactSortTransfers.core v0 l W k0

namespace FnExactSortTransfers
theorem own : ownKnob Try.prog.godebug = none := by kernel_rfl
theorem laidOut : laidOutB Try.prog = true := by kernel_rfl

set_option maxRecDepth 100000 in
theorem lifted (os : Os) (started : os.Started) (H : Type) (enc : TypeId × Value → H) :
    ReturnsInHanded {} Try.checked os 3 .any (Rows.fnExactSortTransfersSpec.pre6 enc Try.prog Try.f3 Rows.fnExactSortTransfersRow.domain false) (Rows.fnExactSortTransfersSpec.post enc Try.prog Try.f3 false true false false) := by
  refine returnsInHanded_of_change (C := Try.checked) own started (by kernel_rfl) Try.func3
    (ChangeSpec.witness6 (enc := enc) (C := Try.checked) false ⟨#[], #[.slice none 0 0], []⟩ 8 (by kernel_rfl) (by kernel_rfl) (by kernel_rfl) (by kernel_rfl)) ?_
  intro W base args ds gs before hval0 hW hcnd _
  have hval : ∀ (j : Nat) t v, Try.f3.params[j]? = some t → args[j]? = some v → Value.okWide Try.prog W .any base t v := hval0
  have hW' := hW
  obtain ⟨p, q, hA0, hV, rfl, hfz, hnd⟩ := hW
  have hA : DataW.TrodAll enc Try.prog W 0 (fun _ => true) true Try.f3.params.toList args.toList ds p := hA0
  rw [Try.params3] at hA hval
  obtain ⟨v0, vs0, d0, ds0, p0, q0, hargs, rfl, rfl, h0, r0⟩ := trodAll_cons hA
  obtain ⟨rfl, rfl, rfl⟩ := trodAll_nil r0
  obtain rfl : args = #[v0] := by cases args; simp_all
  obtain ⟨rfl, rfl⟩ := trodVars_none hV
  have k0 := h0
  have lt0 : ∀ x ∈ p0, x.block < W.heap.size := by obtain ⟨m, hm⟩ := k0; exact DataW.trod_lt m _ _ _ hm
  clear hA0 hval0
  refine (walk W v0 (hval 0 _ v0 rfl rfl) h0).mono fun e W' ⟨he, bel⟩ => ?_
  subst he
  exact ⟨_, rfl, _, _, _, [], _, [], hW', trodAll_mk1 (shut_bool Try.underlying4 _), (trodAll_cons_mk (Below.trod laidOut (by kernel_rfl) (of_decide_eq_true (by kernel_rfl)) k0 bel lt0) trodAll_mk0), rfl, bel.frame _, fun h => by cases h⟩

theorem over : Rows.fnExactSortTransfersRow.holds Try.pinned (OpenSpec.ofChange Rows.fnExactSortTransfersSpec) :=
  OpenClaim.holds_of_wide 3 Try.f3 rfl rfl rfl rfl rfl rfl rfl ⟨rfl, rfl, rfl, rfl, rfl⟩ rfl rfl rfl rfl rfl (by kernel_rfl) Try.func3 (by kernel_rfl)
    (of_decide_eq_true (by kernel_rfl)) (by unfold Func.isWrapper; first | (rw [if_pos (by decide +kernel)]; kernel_rfl) | (rw [if_neg (by decide +kernel)]; exact ⟨rfl, rfl⟩))
    (fun os started H enc _ => lifted os started H enc)

theorem proved : Rows.FnExactSortTransfersSaid := over
end FnExactSortTransfers

end Go.Proofs.Ytolcgopfbbmjgaa
