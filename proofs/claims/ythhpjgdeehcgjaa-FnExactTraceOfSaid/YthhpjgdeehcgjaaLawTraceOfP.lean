/-
  The program's TraceOf returns what the reference's returns, for every width and every list of operations; no condition.
-/
import Derived.Test.YthhpjgdeehcgjaaPk23
import Derived.Test.YthhpjgdeehcgjaaPk24
import Derived.Test.YthhpjgdeehcgjaaPk1
import Derived.Test.YthhpjgdeehcgjaaMark
import Derived.Test.YthhpjgdeehcgjaaPk17
import Derived.Deep.RegionHeld3
import Derived.Deep.RegionWith
import Derived.Deep.Cut
namespace Go.Proofs.Ythhpjgdeehcgjaa
set_option linter.unusedVariables false
set_option linter.unusedSimpArgs false
open Go.ChangeShapes Go.WideShapes Go.ChangeAt Go.RowKit
open Go.ChangeMaps (open_string shut_string)

set_option maxHeartbeats 8000000 in
set_option maxRecDepth 100000 in
theorem FnExactTraceOf.core (n : Int) (v1 : Value) (l : List Opr) (W : World) (hl1 : RdO W W.heap.size v1 l) :
    Calls Try.prog 4 #[.int .i64 n, v1] W fun e W' => e = .returned (.bool true) ∧ Below W.heap.size W W' := by
  have H1 := Lib.hid hl1
  clear hl1
  obtain ⟨z1, e1⟩ : ∃ z, szOf 1048576 l.length = z := ⟨_, rfl⟩
  have E1 := Lib.hid e1
  clear e1
  by_cases p1 : 0 ≤ z1
  case neg =>
    have q1 : z1 < 0 := by omega
    clear p1
    go_enter Try.func4, Try.ntmps4
    go_wp2_with fail
    refine (szOpS_any _ l 1048576 _ _ H1.out (by omega) (by omega)).mono ?_
    rintro e w' ⟨rfl, rfl⟩
    rw [E1.out]
    go_wp2
    go_ret
    exact ⟨rfl, (Below.refl _ _)⟩
  obtain ⟨f1, g1⟩ := szOf_pos' E1.out p1
  have s1 := Lib.hid (show (l).length ≤ 1048576 by omega)
  have u1 : z1 ≤ 1048576 := by omega
  clear f1 g1
  have sr : Hid (((trR n l).1).length ≤ 1048576) := trR_len n l
  go_enter Try.func4, Try.ntmps4
  go_wp2_with fail
  refine (szOpS_any _ l 1048576 _ _ H1.out (by omega) (by omega)).mono ?_
  rintro e w' ⟨rfl, rfl⟩
  rw [E1.out]
  go_wp2_with fail
  refine (toOpS_any _ l _ H1.out s1.out).mono ?_
  rintro e w1 ⟨va1, rfl, ho, hb⟩
  have S1 := Lib.hid hb.size
  have B1 := Lib.hid (hb)
  have Oa1 := Lib.hid ho
  clear ho
  clear hb
  go_wp2_with fail
  refine (specTraceOf_any n _ l _ ((RdS.of_own Opr.len Oa1.out).more (by have := S1.out; omega))).mono ?_
  rintro e w2 ⟨vw, rfl, ho, hb⟩
  have Oa1' := Lib.hid (Oa1.out.below (hb.mono (by have := S1.out; omega)))
  clear Oa1
  have Oa1 := Oa1'
  clear Oa1'
  have S2 := Lib.hid hb.size
  have B2 := Lib.hid (B1.out.trans (hb.mono B1.out.size))
  have Ow := Lib.hid ho
  clear ho
  clear hb B1
  clear Oa1
  go_wp2_with fail
  refine (toOpS_any _ l _ ((H1.out.below B2.out).more B2.out.size) s1.out).mono ?_
  rintro e w3 ⟨vx1, rfl, ho, hb⟩
  have Ow' := Lib.hid (Ow.out.below (hb.mono (by have := S1.out; have := S2.out; omega)))
  clear Ow
  have Ow := Ow'
  clear Ow'
  have S3 := Lib.hid hb.size
  have B3 := Lib.hid (B2.out.trans (hb.mono B2.out.size))
  have Ox1 := Lib.hid ho
  clear ho
  clear hb B2
  go_wp2_with fail
  refine (implTraceOf_any n _ l _ ((RdS.of_own Opr.len Ox1.out).more (by have := S1.out; have := S2.out; have := S3.out; omega))).mono ?_
  rintro e w4 ⟨vg, rfl, ho, hb⟩
  have Ow' := Lib.hid (Ow.out.below (hb.mono (by have := S1.out; have := S2.out; have := S3.out; omega)))
  have Ox1' := Lib.hid (Ox1.out.below (hb.mono (by have := S1.out; have := S2.out; have := S3.out; omega)))
  clear Ow Ox1
  have Ow := Ow'
  have Ox1 := Ox1'
  clear Ow' Ox1'
  have S4 := Lib.hid hb.size
  have B4 := Lib.hid (B3.out.trans (hb.mono B3.out.size))
  have Og := Lib.hid ho
  clear ho
  clear hb B3
  go_wp2_with fail
  refine (eqEventS_any _ _ ((trR n l).1) ((trR n l).1) _ _ ((RdS.of_own Ev.len Og.out).more (by have := S1.out; have := S2.out; have := S3.out; have := S4.out; omega)) ((RdS.of_own Ev.len Ow.out).more (by have := S1.out; have := S2.out; have := S3.out; have := S4.out; omega)) (Nat.le_refl _)).mono ?_
  rintro e w5 ⟨rfl, hb⟩
  have Ow' := Lib.hid (Ow.out.below (hb.mono (by have := S1.out; have := S2.out; have := S3.out; have := S4.out; omega)))
  have Ox1' := Lib.hid (Ox1.out.below (hb.mono (by have := S1.out; have := S2.out; have := S3.out; have := S4.out; omega)))
  have Og' := Lib.hid (Og.out.below (hb.mono (by have := S1.out; have := S2.out; have := S3.out; have := S4.out; omega)))
  clear Ow Ox1 Og
  have Ow := Ow'
  have Ox1 := Ox1'
  have Og := Og'
  clear Ow' Ox1' Og'
  have S5 := Lib.hid hb.size
  have B5 := Lib.hid (B4.out.trans (hb.mono B4.out.size))
  clear hb B4
  go_wp2_with fail
  refine (toOpS_any _ l _ ((H1.out.below B5.out).more B5.out.size) s1.out).mono ?_
  rintro e w6 ⟨vy1, rfl, ho, hb⟩
  have Ow' := Lib.hid (Ow.out.below (hb.mono (by have := S1.out; have := S2.out; have := S3.out; have := S4.out; have := S5.out; omega)))
  have Ox1' := Lib.hid (Ox1.out.below (hb.mono (by have := S1.out; have := S2.out; have := S3.out; have := S4.out; have := S5.out; omega)))
  have Og' := Lib.hid (Og.out.below (hb.mono (by have := S1.out; have := S2.out; have := S3.out; have := S4.out; have := S5.out; omega)))
  clear Ow Ox1 Og
  have Ow := Ow'
  have Ox1 := Ox1'
  have Og := Og'
  clear Ow' Ox1' Og'
  have S6 := Lib.hid hb.size
  have B6 := Lib.hid (B5.out.trans (hb.mono B5.out.size))
  have Oy1 := Lib.hid ho
  clear ho
  clear hb B5
  go_wp2_with fail
  refine (eqOpS_any _ _ (l) (l) _ _ ((RdS.of_own Opr.len Ox1.out).more (by have := S1.out; have := S2.out; have := S3.out; have := S4.out; have := S5.out; have := S6.out; omega)) ((RdS.of_own Opr.len Oy1.out).more (by have := S1.out; have := S2.out; have := S3.out; have := S4.out; have := S5.out; have := S6.out; omega)) (Nat.le_refl _)).mono ?_
  rintro e w7 ⟨rfl, hb⟩
  have Ow' := Lib.hid (Ow.out.below (hb.mono (by have := S1.out; have := S2.out; have := S3.out; have := S4.out; have := S5.out; have := S6.out; omega)))
  have Ox1' := Lib.hid (Ox1.out.below (hb.mono (by have := S1.out; have := S2.out; have := S3.out; have := S4.out; have := S5.out; have := S6.out; omega)))
  have Og' := Lib.hid (Og.out.below (hb.mono (by have := S1.out; have := S2.out; have := S3.out; have := S4.out; have := S5.out; have := S6.out; omega)))
  have Oy1' := Lib.hid (Oy1.out.below (hb.mono (by have := S1.out; have := S2.out; have := S3.out; have := S4.out; have := S5.out; have := S6.out; omega)))
  clear Ow Ox1 Og Oy1
  have Ow := Ow'
  have Ox1 := Ox1'
  have Og := Og'
  have Oy1 := Oy1'
  clear Ow' Ox1' Og' Oy1'
  have S7 := Lib.hid hb.size
  have B7 := Lib.hid (B6.out.trans (hb.mono B6.out.size))
  clear hb B6
  clear Oy1
  go_wp2_with fail
  refine (markO_any _ _ _ _ _ _ _ Ox1.out (by omega) (by have := sr.out; have := s1.out; omega)).mono ?_
  rintro e w8 ⟨rfl, ho, hb⟩
  have Ow' := Lib.hid (Ow.out.only hb (by have := S1.out; have := S2.out; have := S3.out; have := S4.out; have := S5.out; have := S6.out; have := S7.out; omega) (by have := S1.out; have := S2.out; have := S3.out; have := S4.out; have := S5.out; have := S6.out; have := S7.out; omega))
  have Og' := Lib.hid (Og.out.only hb (by have := S1.out; have := S2.out; have := S3.out; have := S4.out; have := S5.out; have := S6.out; have := S7.out; omega) (by have := S1.out; have := S2.out; have := S3.out; have := S4.out; have := S5.out; have := S6.out; have := S7.out; omega))
  clear Ow Og
  have Ow := Ow'
  have Og := Og'
  clear Ow' Og'
  have S8 : Hid (w7.heap.size ≤ w8.heap.size) := hb.size
  have B8 := Lib.hid (B7.out.trans (hb.below (by have := S1.out; have := S2.out; have := S3.out; have := S4.out; have := S5.out; have := S6.out; have := S7.out; have := S8.out; omega) (by have := S1.out; have := S2.out; have := S3.out; have := S4.out; have := S5.out; have := S6.out; have := S7.out; have := S8.out; omega)))
  clear Ox1
  have Ox1 := Lib.hid ho
  clear ho hb B7
  clear Ox1
  go_wp2_with fail
  refine (eqEventS_any _ _ ((trR n l).1) ((trR n l).1) _ _ ((RdS.of_own Ev.len Og.out).more (by have := S1.out; have := S2.out; have := S3.out; have := S4.out; have := S5.out; have := S6.out; have := S7.out; have := S8.out; omega)) ((RdS.of_own Ev.len Ow.out).more (by have := S1.out; have := S2.out; have := S3.out; have := S4.out; have := S5.out; have := S6.out; have := S7.out; have := S8.out; omega)) (Nat.le_refl _)).mono ?_
  rintro e w9 ⟨rfl, hb⟩
  have Ow' := Lib.hid (Ow.out.below (hb.mono (by have := S1.out; have := S2.out; have := S3.out; have := S4.out; have := S5.out; have := S6.out; have := S7.out; have := S8.out; omega)))
  have Og' := Lib.hid (Og.out.below (hb.mono (by have := S1.out; have := S2.out; have := S3.out; have := S4.out; have := S5.out; have := S6.out; have := S7.out; have := S8.out; omega)))
  clear Ow Og
  have Ow := Ow'
  have Og := Og'
  clear Ow' Og'
  have S9 := Lib.hid hb.size
  have B9 := Lib.hid (B8.out.trans (hb.mono B8.out.size))
  clear hb B8
  go_wp2_with fail
  refine (markE_any _ _ _ _ _ _ _ Og.out (by omega) (by have := sr.out; have := s1.out; omega)).mono ?_
  rintro e w10 ⟨rfl, ho, hb⟩
  have Ow' := Lib.hid (Ow.out.only hb (by have := S1.out; have := S2.out; have := S3.out; have := S4.out; have := S5.out; have := S6.out; have := S7.out; have := S8.out; have := S9.out; omega) (by have := S1.out; have := S2.out; have := S3.out; have := S4.out; have := S5.out; have := S6.out; have := S7.out; have := S8.out; have := S9.out; omega))
  clear Ow
  have Ow := Ow'
  clear Ow'
  have S10 : Hid (w9.heap.size ≤ w10.heap.size) := hb.size
  have B10 := Lib.hid (B9.out.trans (hb.below (by have := S1.out; have := S2.out; have := S3.out; have := S4.out; have := S5.out; have := S6.out; have := S7.out; have := S8.out; have := S9.out; have := S10.out; omega) (by have := S1.out; have := S2.out; have := S3.out; have := S4.out; have := S5.out; have := S6.out; have := S7.out; have := S8.out; have := S9.out; have := S10.out; omega)))
  clear Og
  have Og := Lib.hid ho
  clear ho hb B9
  go_wp2_with fail
  refine (heldE_any _ _ _ _ _ _ Og.out (by omega) (by have := sr.out; have := s1.out; omega)).mono ?_
  rintro e w' ⟨rfl, rfl⟩
  go_wp2_with fail
  refine (toOpS_any _ l _ ((H1.out.below B10.out).more B10.out.size) s1.out).mono ?_
  rintro e w11 ⟨vz1, rfl, ho, hb⟩
  have Ow' := Lib.hid (Ow.out.below (hb.mono (by have := S1.out; have := S2.out; have := S3.out; have := S4.out; have := S5.out; have := S6.out; have := S7.out; have := S8.out; have := S9.out; have := S10.out; omega)))
  have Og' := Lib.hid (Og.out.below (hb.mono (by have := S1.out; have := S2.out; have := S3.out; have := S4.out; have := S5.out; have := S6.out; have := S7.out; have := S8.out; have := S9.out; have := S10.out; omega)))
  clear Ow Og
  have Ow := Ow'
  have Og := Og'
  clear Ow' Og'
  have S11 := Lib.hid hb.size
  have B11 := Lib.hid (B10.out.trans (hb.mono B10.out.size))
  have Oz1 := Lib.hid ho
  clear ho
  clear hb B10
  go_wp2_with fail
  refine (implTraceOf_any n _ l _ ((RdS.of_own Opr.len Oz1.out).more (by have := S1.out; have := S2.out; have := S3.out; have := S4.out; have := S5.out; have := S6.out; have := S7.out; have := S8.out; have := S9.out; have := S10.out; have := S11.out; omega))).mono ?_
  rintro e w12 ⟨vh, rfl, ho, hb⟩
  have Ow' := Lib.hid (Ow.out.below (hb.mono (by have := S1.out; have := S2.out; have := S3.out; have := S4.out; have := S5.out; have := S6.out; have := S7.out; have := S8.out; have := S9.out; have := S10.out; have := S11.out; omega)))
  have Og' := Lib.hid (Og.out.below (hb.mono (by have := S1.out; have := S2.out; have := S3.out; have := S4.out; have := S5.out; have := S6.out; have := S7.out; have := S8.out; have := S9.out; have := S10.out; have := S11.out; omega)))
  have Oz1' := Lib.hid (Oz1.out.below (hb.mono (by have := S1.out; have := S2.out; have := S3.out; have := S4.out; have := S5.out; have := S6.out; have := S7.out; have := S8.out; have := S9.out; have := S10.out; have := S11.out; omega)))
  clear Ow Og Oz1
  have Ow := Ow'
  have Og := Og'
  have Oz1 := Oz1'
  clear Ow' Og' Oz1'
  have S12 := Lib.hid hb.size
  have B12 := Lib.hid (B11.out.trans (hb.mono B11.out.size))
  have Oh := Lib.hid ho
  clear ho
  clear hb B11
  clear Oz1
  go_wp2_with fail
  refine (eqEventS_any _ _ ((trR n l).1) ((trR n l).1) _ _ ((RdS.of_own Ev.len Oh.out).more (by have := S1.out; have := S2.out; have := S3.out; have := S4.out; have := S5.out; have := S6.out; have := S7.out; have := S8.out; have := S9.out; have := S10.out; have := S11.out; have := S12.out; omega)) ((RdS.of_own Ev.len Ow.out).more (by have := S1.out; have := S2.out; have := S3.out; have := S4.out; have := S5.out; have := S6.out; have := S7.out; have := S8.out; have := S9.out; have := S10.out; have := S11.out; have := S12.out; omega)) (Nat.le_refl _)).mono ?_
  rintro e w13 ⟨rfl, hb⟩
  have Ow' := Lib.hid (Ow.out.below (hb.mono (by have := S1.out; have := S2.out; have := S3.out; have := S4.out; have := S5.out; have := S6.out; have := S7.out; have := S8.out; have := S9.out; have := S10.out; have := S11.out; have := S12.out; omega)))
  have Og' := Lib.hid (Og.out.below (hb.mono (by have := S1.out; have := S2.out; have := S3.out; have := S4.out; have := S5.out; have := S6.out; have := S7.out; have := S8.out; have := S9.out; have := S10.out; have := S11.out; have := S12.out; omega)))
  have Oh' := Lib.hid (Oh.out.below (hb.mono (by have := S1.out; have := S2.out; have := S3.out; have := S4.out; have := S5.out; have := S6.out; have := S7.out; have := S8.out; have := S9.out; have := S10.out; have := S11.out; have := S12.out; omega)))
  clear Ow Og Oh
  have Ow := Ow'
  have Og := Og'
  have Oh := Oh'
  clear Ow' Og' Oh'
  have S13 := Lib.hid hb.size
  have B13 := Lib.hid (B12.out.trans (hb.mono B12.out.size))
  clear hb B12
  clear Oh
  clear Ow
  go_wp2_with fail
  refine (heldE_any _ _ _ _ _ _ Og.out (by omega) (by have := sr.out; have := s1.out; omega)).mono ?_
  rintro e w' ⟨rfl, rfl⟩
  go_wp2
  go_ret
  exact ⟨rfl, B13.out⟩

set_option maxRecDepth 100000 in
theorem FnExactTraceOf.walk {H : Type} {enc : TypeId × Value → H} {base : Nat} {d0 : DataW H} {p0 : List MemPlace} {d1 : DataW H} {p1 : List MemPlace} (W : World) (v0 : Value) (v1 : Value) (o0 : Value.okWide Try.prog W .any base 2 v0) (o1 : Value.okWide Try.prog W .any base 50 v1)
    (h0 : DataW.Trod enc Try.prog W 0 (fun _ => true) true 2 v0 d0 p0) (h1 : DataW.Trod enc Try.prog W 0 (fun _ => true) true 50 v1 d1 p1) : Calls Try.prog 4 #[v0, v1] W fun e W' => e = .returned (.bool true) ∧ Below W.heap.size W W' := by
  obtain ⟨n, rfl, rfl, rfl, w0⟩ := open_int Try.underlying2 o0 h0
  obtain ⟨l, k1, _⟩ := open_ops o1 h1
  exact FnExactTraceOf.core n v1 l W k1

namespace FnExactTraceOf
theorem own : ownKnob Try.prog.godebug = none := by kernel_rfl
theorem laidOut : laidOutB Try.prog = true := by kernel_rfl

set_option maxRecDepth 100000 in
theorem lifted (os : Os) (started : os.Started) (H : Type) (enc : TypeId × Value → H) :
    ReturnsInHanded {} Try.checked os 4 .any (Rows.fnExactTraceOfSpec.pre6 enc Try.prog Try.f4 Rows.fnExactTraceOfRow.domain false) (Rows.fnExactTraceOfSpec.post enc Try.prog Try.f4 false true false false) := by
  refine returnsInHanded_of_change (C := Try.checked) own started (by kernel_rfl) Try.func4
    (ChangeSpec.witness6 (enc := enc) (C := Try.checked) false ⟨#[], #[.int .i64 0, .slice none 0 0], []⟩ 8 (by kernel_rfl) (by kernel_rfl) (by kernel_rfl) (by kernel_rfl)) ?_
  intro W base args ds gs before hval0 hW hcnd _
  have hval : ∀ (j : Nat) t v, Try.f4.params[j]? = some t → args[j]? = some v → Value.okWide Try.prog W .any base t v := hval0
  have hW' := hW
  obtain ⟨p, q, hA0, hV, rfl, hfz, hnd⟩ := hW
  have hA : DataW.TrodAll enc Try.prog W 0 (fun _ => true) true Try.f4.params.toList args.toList ds p := hA0
  rw [Try.params4] at hA hval
  obtain ⟨v0, vs0, d0, ds0, p0, q0, hargs, rfl, rfl, h0, r0⟩ := trodAll_cons hA
  obtain ⟨v1, vs1, d1, ds1, p1, q1, rfl, rfl, rfl, h1, r1⟩ := trodAll_cons r0
  obtain ⟨rfl, rfl, rfl⟩ := trodAll_nil r1
  obtain rfl : args = #[v0, v1] := by cases args; simp_all
  obtain ⟨rfl, rfl⟩ := trodVars_none hV
  have k0 := h0
  have lt0 : ∀ x ∈ p0, x.block < W.heap.size := by obtain ⟨m, hm⟩ := k0; exact DataW.trod_lt m _ _ _ hm
  have k1 := h1
  have lt1 : ∀ x ∈ p1, x.block < W.heap.size := by obtain ⟨m, hm⟩ := k1; exact DataW.trod_lt m _ _ _ hm
  clear hA0 hval0
  refine (walk W v0 v1 (hval 0 _ v0 rfl rfl) (hval 1 _ v1 rfl rfl) h0 h1).mono fun e W' ⟨he, bel⟩ => ?_
  subst he
  exact ⟨_, rfl, _, _, _, [], _, [], hW', trodAll_mk1 (shut_bool Try.underlying4 _), (trodAll_cons_mk (Below.trod laidOut (by kernel_rfl) (of_decide_eq_true (by kernel_rfl)) k0 bel lt0) (trodAll_cons_mk (Below.trod laidOut (by kernel_rfl) (of_decide_eq_true (by kernel_rfl)) k1 bel lt1) trodAll_mk0)), rfl, bel.frame _, fun h => by cases h⟩

theorem over : Rows.fnExactTraceOfRow.holds Try.pinned (OpenSpec.ofChange Rows.fnExactTraceOfSpec) :=
  OpenClaim.holds_of_wide 4 Try.f4 rfl rfl rfl rfl rfl rfl rfl ⟨rfl, rfl, rfl, rfl, rfl⟩ rfl rfl rfl rfl rfl (by kernel_rfl) Try.func4 (by kernel_rfl)
    (of_decide_eq_true (by kernel_rfl)) (by unfold Func.isWrapper; first | (rw [if_pos (by decide +kernel)]; kernel_rfl) | (rw [if_neg (by decide +kernel)]; exact ⟨rfl, rfl⟩))
    (fun os started H enc _ => lifted os started H enc)

theorem proved : Rows.FnExactTraceOfSaid := over
end FnExactTraceOf

end Go.Proofs.Ythhpjgdeehcgjaa
