/-
  The program's FirstDifference returns what the reference's returns, for every two lists of events; no condition.
-/
import Derived.Test.YtfeonaocmnpkcaaPk4
import Derived.Test.YtfeonaocmnpkcaaPk1
import Derived.Deep.RegionHeld3
import Derived.Deep.RegionWith
import Derived.Deep.Cut
import Derived.Test.YtfeonaocmnpkcaaPk2
import Derived.Test.YtfeonaocmnpkcaaPk3
namespace Go.Proofs.Ytfeonaocmnpkcaa
set_option linter.unusedVariables false
set_option linter.unusedSimpArgs false
open Go.ChangeShapes Go.WideShapes Go.ChangeAt Go.RowKit
open Go.ChangeMaps (open_string shut_string)

set_option maxHeartbeats 8000000 in
set_option maxRecDepth 100000 in
theorem FnExactFirstDifference.core (v0 : Value) (l : List Ev) (v1 : Value) (m : List Ev) (W : World) (hl0 : RdE W W.heap.size v0 l) (hl1 : RdE W W.heap.size v1 m) :
    Calls Try.prog 7 #[v0, v1] W fun e W' => e = .returned (.bool true) ∧ Below W.heap.size W W' := by
  have H0 := Lib.hid hl0
  clear hl0
  have H1 := Lib.hid hl1
  clear hl1
  obtain ⟨z0, e0⟩ : ∃ z, szOf 1048576 l.length = z := ⟨_, rfl⟩
  have E0 := Lib.hid e0
  clear e0
  by_cases p0 : 0 ≤ z0
  case neg =>
    have q0 : z0 < 0 := by omega
    clear p0
    go_enter Try.func7, Try.ntmps7
    go_wp2_with fail
    refine (szEventS_any _ l 1048576 _ _ H0.out (by omega) (by omega)).mono ?_
    rintro e w' ⟨rfl, rfl⟩
    rw [E0.out]
    go_wp2
    go_ret
    exact ⟨rfl, (Below.refl _ _)⟩
  obtain ⟨f0, g0⟩ := szOf_pos' E0.out p0
  have s0 := Lib.hid (show (l).length ≤ 1048576 by omega)
  have u0 : z0 ≤ 1048576 := by omega
  clear f0 g0
  obtain ⟨z1, e1⟩ : ∃ z, szOf z0 m.length = z := ⟨_, rfl⟩
  have E1 := Lib.hid e1
  clear e1
  by_cases p1 : 0 ≤ z1
  case neg =>
    have q1 : z1 < 0 := by omega
    clear p1
    go_enter Try.func7, Try.ntmps7
    go_wp2_with fail
    refine (szEventS_any _ l 1048576 _ _ H0.out (by omega) (by omega)).mono ?_
    rintro e w' ⟨rfl, rfl⟩
    rw [E0.out]
    go_wp2_with fail
    refine (szEventS_any _ m z0 _ _ H1.out (by omega) (by omega)).mono ?_
    rintro e w' ⟨rfl, rfl⟩
    rw [E1.out]
    go_wp2
    go_ret
    exact ⟨rfl, (Below.refl _ _)⟩
  obtain ⟨f1, g1⟩ := szOf_pos' E1.out p1
  have s1 := Lib.hid (show (m).length ≤ 1048576 by omega)
  have u1 : z1 ≤ 1048576 := by omega
  clear f1 g1
  go_enter Try.func7, Try.ntmps7
  go_wp2_with fail
  refine (szEventS_any _ l 1048576 _ _ H0.out (by omega) (by omega)).mono ?_
  rintro e w' ⟨rfl, rfl⟩
  rw [E0.out]
  go_wp2_with fail
  refine (szEventS_any _ m z0 _ _ H1.out (by omega) (by omega)).mono ?_
  rintro e w' ⟨rfl, rfl⟩
  rw [E1.out]
  go_wp2_with fail
  refine (toEventS_any _ l _ H0.out s0.out).mono ?_
  rintro e w1 ⟨va0, rfl, ho, hb⟩
  have S1 := Lib.hid hb.size
  have B1 := Lib.hid (hb)
  have Oa0 := Lib.hid ho
  clear ho
  clear hb
  go_wp2_with fail
  refine (toEventS_any _ m _ ((H1.out.below B1.out).more B1.out.size) s1.out).mono ?_
  rintro e w2 ⟨va1, rfl, ho, hb⟩
  have Oa0' := Lib.hid (Oa0.out.below (hb.mono (by have := S1.out; omega)))
  clear Oa0
  have Oa0 := Oa0'
  clear Oa0'
  have S2 := Lib.hid hb.size
  have B2 := Lib.hid (B1.out.trans (hb.mono B1.out.size))
  have Oa1 := Lib.hid ho
  clear ho
  clear hb B1
  go_wp2_with fail
  refine (specFirstFab_any _ _ l m _ ((RdS.of_own Ev.len Oa0.out).more (by have := S1.out; have := S2.out; omega)) ((RdS.of_own Ev.len Oa1.out).more (by have := S1.out; have := S2.out; omega))).mono ?_
  rintro e w3 ⟨he, hb⟩
  unfold fdval at he
  subst he
  have Oa0' := Lib.hid (Oa0.out.below (hb.mono (by have := S1.out; have := S2.out; omega)))
  have Oa1' := Lib.hid (Oa1.out.below (hb.mono (by have := S1.out; have := S2.out; omega)))
  clear Oa0 Oa1
  have Oa0 := Oa0'
  have Oa1 := Oa1'
  clear Oa0' Oa1'
  have S3 := Lib.hid hb.size
  have B3 := Lib.hid (B2.out.trans (hb.mono B2.out.size))
  clear hb B2
  clear Oa0
  clear Oa1
  go_wp2_with fail
  refine (toEventS_any _ l _ ((H0.out.below B3.out).more B3.out.size) s0.out).mono ?_
  rintro e w4 ⟨vx0, rfl, ho, hb⟩
  have S4 := Lib.hid hb.size
  have B4 := Lib.hid (B3.out.trans (hb.mono B3.out.size))
  have Ox0 := Lib.hid ho
  clear ho
  clear hb B3
  go_wp2_with fail
  refine (toEventS_any _ m _ ((H1.out.below B4.out).more B4.out.size) s1.out).mono ?_
  rintro e w5 ⟨vx1, rfl, ho, hb⟩
  have Ox0' := Lib.hid (Ox0.out.below (hb.mono (by have := S1.out; have := S2.out; have := S3.out; have := S4.out; omega)))
  clear Ox0
  have Ox0 := Ox0'
  clear Ox0'
  have S5 := Lib.hid hb.size
  have B5 := Lib.hid (B4.out.trans (hb.mono B4.out.size))
  have Ox1 := Lib.hid ho
  clear ho
  clear hb B4
  go_wp2_with fail
  refine (implFirstFab_any _ _ l m _ ((RdS.of_own Ev.len Ox0.out).more (by have := S1.out; have := S2.out; have := S3.out; have := S4.out; have := S5.out; omega)) ((RdS.of_own Ev.len Ox1.out).more (by have := S1.out; have := S2.out; have := S3.out; have := S4.out; have := S5.out; omega))).mono ?_
  rintro e w6 ⟨he, hb⟩
  unfold fdval at he
  subst he
  have Ox0' := Lib.hid (Ox0.out.below (hb.mono (by have := S1.out; have := S2.out; have := S3.out; have := S4.out; have := S5.out; omega)))
  have Ox1' := Lib.hid (Ox1.out.below (hb.mono (by have := S1.out; have := S2.out; have := S3.out; have := S4.out; have := S5.out; omega)))
  clear Ox0 Ox1
  have Ox0 := Ox0'
  have Ox1 := Ox1'
  clear Ox0' Ox1'
  have S6 := Lib.hid hb.size
  have B6 := Lib.hid (B5.out.trans (hb.mono B5.out.size))
  clear hb B5
  go_wp2_with fail
  refine (toEventS_any _ l _ ((H0.out.below B6.out).more B6.out.size) s0.out).mono ?_
  rintro e w7 ⟨vy0, rfl, ho, hb⟩
  have Ox0' := Lib.hid (Ox0.out.below (hb.mono (by have := S1.out; have := S2.out; have := S3.out; have := S4.out; have := S5.out; have := S6.out; omega)))
  have Ox1' := Lib.hid (Ox1.out.below (hb.mono (by have := S1.out; have := S2.out; have := S3.out; have := S4.out; have := S5.out; have := S6.out; omega)))
  clear Ox0 Ox1
  have Ox0 := Ox0'
  have Ox1 := Ox1'
  clear Ox0' Ox1'
  have S7 := Lib.hid hb.size
  have B7 := Lib.hid (B6.out.trans (hb.mono B6.out.size))
  have Oy0 := Lib.hid ho
  clear ho
  clear hb B6
  go_wp2_with fail
  refine (eqEventS_any _ _ (l) (l) _ _ ((RdS.of_own Ev.len Ox0.out).more (by have := S1.out; have := S2.out; have := S3.out; have := S4.out; have := S5.out; have := S6.out; have := S7.out; omega)) ((RdS.of_own Ev.len Oy0.out).more (by have := S1.out; have := S2.out; have := S3.out; have := S4.out; have := S5.out; have := S6.out; have := S7.out; omega)) (Nat.le_refl _)).mono ?_
  rintro e w8 ⟨rfl, hb⟩
  have Ox0' := Lib.hid (Ox0.out.below (hb.mono (by have := S1.out; have := S2.out; have := S3.out; have := S4.out; have := S5.out; have := S6.out; have := S7.out; omega)))
  have Ox1' := Lib.hid (Ox1.out.below (hb.mono (by have := S1.out; have := S2.out; have := S3.out; have := S4.out; have := S5.out; have := S6.out; have := S7.out; omega)))
  have Oy0' := Lib.hid (Oy0.out.below (hb.mono (by have := S1.out; have := S2.out; have := S3.out; have := S4.out; have := S5.out; have := S6.out; have := S7.out; omega)))
  clear Ox0 Ox1 Oy0
  have Ox0 := Ox0'
  have Ox1 := Ox1'
  have Oy0 := Oy0'
  clear Ox0' Ox1' Oy0'
  have S8 := Lib.hid hb.size
  have B8 := Lib.hid (B7.out.trans (hb.mono B7.out.size))
  clear hb B7
  clear Oy0
  go_wp2_with fail
  refine (toEventS_any _ m _ ((H1.out.below B8.out).more B8.out.size) s1.out).mono ?_
  rintro e w9 ⟨vy1, rfl, ho, hb⟩
  have Ox0' := Lib.hid (Ox0.out.below (hb.mono (by have := S1.out; have := S2.out; have := S3.out; have := S4.out; have := S5.out; have := S6.out; have := S7.out; have := S8.out; omega)))
  have Ox1' := Lib.hid (Ox1.out.below (hb.mono (by have := S1.out; have := S2.out; have := S3.out; have := S4.out; have := S5.out; have := S6.out; have := S7.out; have := S8.out; omega)))
  clear Ox0 Ox1
  have Ox0 := Ox0'
  have Ox1 := Ox1'
  clear Ox0' Ox1'
  have S9 := Lib.hid hb.size
  have B9 := Lib.hid (B8.out.trans (hb.mono B8.out.size))
  have Oy1 := Lib.hid ho
  clear ho
  clear hb B8
  go_wp2_with fail
  refine (eqEventS_any _ _ (m) (m) _ _ ((RdS.of_own Ev.len Ox1.out).more (by have := S1.out; have := S2.out; have := S3.out; have := S4.out; have := S5.out; have := S6.out; have := S7.out; have := S8.out; have := S9.out; omega)) ((RdS.of_own Ev.len Oy1.out).more (by have := S1.out; have := S2.out; have := S3.out; have := S4.out; have := S5.out; have := S6.out; have := S7.out; have := S8.out; have := S9.out; omega)) (Nat.le_refl _)).mono ?_
  rintro e w10 ⟨rfl, hb⟩
  have Ox0' := Lib.hid (Ox0.out.below (hb.mono (by have := S1.out; have := S2.out; have := S3.out; have := S4.out; have := S5.out; have := S6.out; have := S7.out; have := S8.out; have := S9.out; omega)))
  have Ox1' := Lib.hid (Ox1.out.below (hb.mono (by have := S1.out; have := S2.out; have := S3.out; have := S4.out; have := S5.out; have := S6.out; have := S7.out; have := S8.out; have := S9.out; omega)))
  have Oy1' := Lib.hid (Oy1.out.below (hb.mono (by have := S1.out; have := S2.out; have := S3.out; have := S4.out; have := S5.out; have := S6.out; have := S7.out; have := S8.out; have := S9.out; omega)))
  clear Ox0 Ox1 Oy1
  have Ox0 := Ox0'
  have Ox1 := Ox1'
  have Oy1 := Oy1'
  clear Ox0' Ox1' Oy1'
  have S10 := Lib.hid hb.size
  have B10 := Lib.hid (B9.out.trans (hb.mono B9.out.size))
  clear hb B9
  clear Oy1
  go_wp2
  go_ret
  exact ⟨rfl, B10.out⟩

set_option maxRecDepth 100000 in
theorem FnExactFirstDifference.walk {H : Type} {enc : TypeId × Value → H} {base : Nat} {d0 : DataW H} {p0 : List MemPlace} {d1 : DataW H} {p1 : List MemPlace} (W : World) (v0 : Value) (v1 : Value) (o0 : Value.okWide Try.prog W .any base 25 v0) (o1 : Value.okWide Try.prog W .any base 25 v1)
    (h0 : DataW.Trod enc Try.prog W 0 (fun _ => true) true 25 v0 d0 p0) (h1 : DataW.Trod enc Try.prog W 0 (fun _ => true) true 25 v1 d1 p1) : Calls Try.prog 7 #[v0, v1] W fun e W' => e = .returned (.bool true) ∧ Below W.heap.size W W' := by
  obtain ⟨l, k0, _⟩ := open_evs o0 h0
  obtain ⟨m, k1, _⟩ := open_evs o1 h1
  exact FnExactFirstDifference.core v0 l v1 m W k0 k1

namespace FnExactFirstDifference
theorem own : ownKnob Try.prog.godebug = none := by kernel_rfl
theorem laidOut : laidOutB Try.prog = true := by kernel_rfl

set_option maxRecDepth 100000 in
theorem lifted (os : Os) (started : os.Started) (H : Type) (enc : TypeId × Value → H) :
    ReturnsInHanded {} Try.checked os 7 .any (Rows.fnExactFirstDifferenceSpec.pre6 enc Try.prog Try.f7 Rows.fnExactFirstDifferenceRow.domain false) (Rows.fnExactFirstDifferenceSpec.post enc Try.prog Try.f7 false true false false) := by
  refine returnsInHanded_of_change (C := Try.checked) own started (by kernel_rfl) Try.func7
    (ChangeSpec.witness6 (enc := enc) (C := Try.checked) false ⟨#[], #[.slice none 0 0, .slice none 0 0], []⟩ 8 (by kernel_rfl) (by kernel_rfl) (by kernel_rfl) (by kernel_rfl)) ?_
  intro W base args ds gs before hval0 hW hcnd _
  have hval : ∀ (j : Nat) t v, Try.f7.params[j]? = some t → args[j]? = some v → Value.okWide Try.prog W .any base t v := hval0
  have hW' := hW
  obtain ⟨p, q, hA0, hV, rfl, hfz, hnd⟩ := hW
  have hA : DataW.TrodAll enc Try.prog W 0 (fun _ => true) true Try.f7.params.toList args.toList ds p := hA0
  rw [Try.params7] at hA hval
  obtain ⟨v0, vs0, d0, ds0, p0, q0, hargs, rfl, rfl, h0, r0⟩ := trodAll_cons hA
  obtain ⟨v1, vs1, d1, ds1, p1, q1, rfl, rfl, rfl, h1, r1⟩ := trodAll_cons r0
  obtain ⟨rfl, rfl, rfl⟩ := trodAll_nil r1
  obtain rfl : args = #[v0, v1] := by cases args; simp_all
  obtain ⟨rfl, rfl⟩ := trodVars_none hV
  have k0 := h0
  have lt0 : ∀ x ∈ p0, x.block < W.heap.size := by obtain ⟨m, hm⟩ := k0; exact DataW.trod_lt m _ _ _ hm
  have k1 := h1
  have lt1 : ∀ x ∈ p1, x.block < W.heap.size := by obtain ⟨m, hm⟩ := k1; exact DataW.trod_lt m _ _ _ hm
  clear hA0 hval0
  refine (walk W v0 v1 (hval 0 _ v0 rfl rfl) (hval 1 _ v1 rfl rfl) h0 h1).mono fun e W' ⟨he, bel⟩ => ?_
  subst he
  exact ⟨_, rfl, _, _, _, [], _, [], hW', trodAll_mk1 (shut_bool Try.underlying4 _), (trodAll_cons_mk (Below.trod laidOut (by kernel_rfl) (of_decide_eq_true (by kernel_rfl)) k0 bel lt0) (trodAll_cons_mk (Below.trod laidOut (by kernel_rfl) (of_decide_eq_true (by kernel_rfl)) k1 bel lt1) trodAll_mk0)), rfl, bel.frame _, fun h => by cases h⟩

theorem over : Rows.fnExactFirstDifferenceRow.holds Try.pinned (OpenSpec.ofChange Rows.fnExactFirstDifferenceSpec) :=
  OpenClaim.holds_of_wide 7 Try.f7 rfl rfl rfl rfl rfl rfl rfl ⟨rfl, rfl, rfl, rfl, rfl⟩ rfl rfl rfl rfl rfl (by kernel_rfl) Try.func7 (by kernel_rfl)
    (of_decide_eq_true (by kernel_rfl)) (by unfold Func.isWrapper; first | (rw [if_pos (by decide +kernel)]; kernel_rfl) | (rw [if_neg (by decide +kernel)]; exact ⟨rfl, rfl⟩))
    (fun os started H enc _ => lifted os started H enc)

theorem proved : Rows.FnExactFirstDifferenceSaid := over
end FnExactFirstDifference

end Go.Proofs.Ytfeonaocmnpkcaa
