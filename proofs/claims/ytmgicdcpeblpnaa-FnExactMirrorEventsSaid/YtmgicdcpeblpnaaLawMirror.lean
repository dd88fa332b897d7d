/-
  The program's MirrorEvents returns what the reference's returns, for every list of events; no condition.
-/
import Derived.Test.YtmgicdcpeblpnaaMirE
import Derived.Test.YtmgicdcpeblpnaaSame
import Derived.Test.YtmgicdcpeblpnaaMark
import Derived.Test.YtmgicdcpeblpnaaOpenEv
namespace Go.Proofs.Ytmgicdcpeblpnaa
set_option linter.unusedVariables false
set_option linter.unusedSimpArgs false
open Go.ChangeShapes Go.WideShapes Go.ChangeAt Go.RowKit
open Go.ChangeMaps (open_string shut_string)

set_option maxHeartbeats 8000000 in
set_option maxRecDepth 100000 in
theorem FnExactMirrorEvents.core (v : Value) (l : List Ev) (W : World) (hl : RdE W W.heap.size v l) :
    Calls Try.prog 12 #[v] W fun e W' => e = .returned (.bool true) ∧ Below W.heap.size W W' := by
  have H0 := Lib.hid hl
  clear hl
  by_cases h1 : (l.length : Int) ≤ 1048576
  case neg =>
    have hs := Lib.hid (szOf_no h1)
    clear h1
    go_enter Try.func12, Try.ntmps12
    go_wp2_with (go_at_call 22; refine (szEventS_any _ l _ _ _ H0.out (by omega) (by omega)).mono ?_; rintro e w1 ⟨rfl, rfl⟩; rw [hs.out])
    go_ret
    exact ⟨rfl, Below.refl _ _⟩
  have hl1 : Hid (l.length ≤ 1048576) := by unfold Hid; omega
  have hr1 : Hid ((mirL l).length ≤ 1048576) := Nat.le_trans (mirL_len l) hl1.out
  have hs := Lib.hid (szOf_yes h1)
  have h3 : 0 ≤ 1048576 - (l.length : Int) := by omega
  go_enter Try.func12, Try.ntmps12
  go_wp2_with fail
  refine (szEventS_any _ l _ _ _ H0.out (by omega) (by omega)).mono ?_
  rintro e w1 ⟨rfl, rfl⟩
  rw [hs.out]
  go_wp2_with fail
  clear h1 h3
  refine (toEventS_any _ l _ H0.out hl1.out).mono ?_
  rintro e w1 ⟨v1, rfl, ho, hb⟩
  have S1 := Lib.hid hb.size
  have Oa := Lib.hid ho
  clear ho
  have B1 := Lib.hid (hb)
  clear hb
  go_wp2_with fail
  refine (specMirror_any _ l _ ((RdS.of_own Ev.len Oa.out).more (by have := S1.out; omega)) hl1.out).mono ?_
  rintro e w2 ⟨v2, rfl, ho, hb⟩
  have Oa' := Lib.hid (Oa.out.below (hb.mono (by have := S1.out; omega)))
  clear Oa
  have Oa := Oa'
  clear Oa'
  have S2 := Lib.hid hb.size
  have Ow := Lib.hid ho
  clear ho
  have B2 := Lib.hid (B1.out.trans (hb.mono B1.out.size))
  clear hb B1
  clear Oa
  go_wp2_with fail
  refine (toEventS_any _ l _ ((H0.out.below B2.out).more B2.out.size) hl1.out).mono ?_
  rintro e w3 ⟨v3, rfl, ho, hb⟩
  have Ow' := Lib.hid (Ow.out.below (hb.mono (by have := S1.out; have := S2.out; omega)))
  clear Ow
  have Ow := Ow'
  clear Ow'
  have S3 := Lib.hid hb.size
  have Ox := Lib.hid ho
  clear ho
  have B3 := Lib.hid (B2.out.trans (hb.mono B2.out.size))
  clear hb B2
  go_wp2_with fail
  refine (implMirror_any _ l _ ((RdS.of_own Ev.len Ox.out).more (by have := S1.out; have := S2.out; have := S3.out; omega)) hl1.out).mono ?_
  rintro e w4 ⟨v4, rfl, ho, hb⟩
  have Ow' := Lib.hid (Ow.out.below (hb.mono (by have := S1.out; have := S2.out; have := S3.out; omega)))
  have Ox' := Lib.hid (Ox.out.below (hb.mono (by have := S1.out; have := S2.out; have := S3.out; omega)))
  clear Ow Ox
  have Ow := Ow'
  have Ox := Ox'
  clear Ow' Ox'
  have S4 := Lib.hid hb.size
  have Og := Lib.hid ho
  clear ho
  have B4 := Lib.hid (B3.out.trans (hb.mono B3.out.size))
  clear hb B3
  go_wp2_with fail
  refine (eqEventS_any _ _ (mirL l) (mirL l) _ _ ((RdS.of_own Ev.len Og.out).more (by have := S1.out; have := S2.out; have := S3.out; have := S4.out; omega)) ((RdS.of_own Ev.len Ow.out).more (by have := S1.out; have := S2.out; have := S3.out; have := S4.out; omega)) (Nat.le_refl _)).mono ?_
  rintro e w5 ⟨rfl, hb⟩
  have Ow' := Lib.hid (Ow.out.below (hb.mono (by have := S1.out; have := S2.out; have := S3.out; have := S4.out; omega)))
  have Ox' := Lib.hid (Ox.out.below (hb.mono (by have := S1.out; have := S2.out; have := S3.out; have := S4.out; omega)))
  have Og' := Lib.hid (Og.out.below (hb.mono (by have := S1.out; have := S2.out; have := S3.out; have := S4.out; omega)))
  clear Ow Ox Og
  have Ow := Ow'
  have Ox := Ox'
  have Og := Og'
  clear Ow' Ox' Og'
  have S5 := Lib.hid hb.size
  have B5 := Lib.hid (B4.out.trans (hb.mono B4.out.size))
  clear hb B4
  go_wp2_with fail
  refine (toEventS_any _ l _ ((H0.out.below B5.out).more B5.out.size) hl1.out).mono ?_
  rintro e w6 ⟨v6, rfl, ho, hb⟩
  have Ow' := Lib.hid (Ow.out.below (hb.mono (by have := S1.out; have := S2.out; have := S3.out; have := S4.out; have := S5.out; omega)))
  have Ox' := Lib.hid (Ox.out.below (hb.mono (by have := S1.out; have := S2.out; have := S3.out; have := S4.out; have := S5.out; omega)))
  have Og' := Lib.hid (Og.out.below (hb.mono (by have := S1.out; have := S2.out; have := S3.out; have := S4.out; have := S5.out; omega)))
  clear Ow Ox Og
  have Ow := Ow'
  have Ox := Ox'
  have Og := Og'
  clear Ow' Ox' Og'
  have S6 := Lib.hid hb.size
  have Oy := Lib.hid ho
  clear ho
  have B6 := Lib.hid (B5.out.trans (hb.mono B5.out.size))
  clear hb B5
  go_wp2_with fail
  refine (eqEventS_any _ _ (l) (l) _ _ ((RdS.of_own Ev.len Ox.out).more (by have := S1.out; have := S2.out; have := S3.out; have := S4.out; have := S5.out; have := S6.out; omega)) ((RdS.of_own Ev.len Oy.out).more (by have := S1.out; have := S2.out; have := S3.out; have := S4.out; have := S5.out; have := S6.out; omega)) (Nat.le_refl _)).mono ?_
  rintro e w7 ⟨rfl, hb⟩
  have Ow' := Lib.hid (Ow.out.below (hb.mono (by have := S1.out; have := S2.out; have := S3.out; have := S4.out; have := S5.out; have := S6.out; omega)))
  have Ox' := Lib.hid (Ox.out.below (hb.mono (by have := S1.out; have := S2.out; have := S3.out; have := S4.out; have := S5.out; have := S6.out; omega)))
  have Og' := Lib.hid (Og.out.below (hb.mono (by have := S1.out; have := S2.out; have := S3.out; have := S4.out; have := S5.out; have := S6.out; omega)))
  have Oy' := Lib.hid (Oy.out.below (hb.mono (by have := S1.out; have := S2.out; have := S3.out; have := S4.out; have := S5.out; have := S6.out; omega)))
  clear Ow Ox Og Oy
  have Ow := Ow'
  have Ox := Ox'
  have Og := Og'
  have Oy := Oy'
  clear Ow' Ox' Og' Oy'
  have S7 := Lib.hid hb.size
  have B7 := Lib.hid (B6.out.trans (hb.mono B6.out.size))
  clear hb B6
  clear Oy
  go_wp2_with fail
  refine (markE_any _ _ _ _ _ _ _ Ox.out (by omega) (by have := hl1.out; omega)).mono ?_
  rintro e w8 ⟨rfl, ho, hb⟩
  have Ow' := Lib.hid (Ow.out.only hb (by have := S1.out; have := S2.out; have := S3.out; have := S4.out; have := S5.out; have := S6.out; have := S7.out; omega) (by have := S1.out; have := S2.out; have := S3.out; have := S4.out; have := S5.out; have := S6.out; have := S7.out; omega))
  have Og' := Lib.hid (Og.out.only hb (by have := S1.out; have := S2.out; have := S3.out; have := S4.out; have := S5.out; have := S6.out; have := S7.out; omega) (by have := S1.out; have := S2.out; have := S3.out; have := S4.out; have := S5.out; have := S6.out; have := S7.out; omega))
  clear Ow Og
  have Ow := Ow'
  have Og := Og'
  clear Ow' Og'
  have S8 : Hid (w7.heap.size ≤ w8.heap.size) := hb.size
  have B8 := Lib.hid (B7.out.trans (hb.below (by have := S1.out; have := S2.out; have := S3.out; have := S4.out; have := S5.out; have := S6.out; have := S7.out; have := S8.out; omega) (by have := S1.out; have := S2.out; have := S3.out; have := S4.out; have := S5.out; have := S6.out; have := S7.out; have := S8.out; omega)))
  clear Ox
  have Ox := Lib.hid ho
  clear ho hb B7
  clear Ox
  go_wp2_with fail
  refine (eqEventS_any _ _ (mirL l) (mirL l) _ _ ((RdS.of_own Ev.len Og.out).more (by have := S1.out; have := S2.out; have := S3.out; have := S4.out; have := S5.out; have := S6.out; have := S7.out; have := S8.out; omega)) ((RdS.of_own Ev.len Ow.out).more (by have := S1.out; have := S2.out; have := S3.out; have := S4.out; have := S5.out; have := S6.out; have := S7.out; have := S8.out; omega)) (Nat.le_refl _)).mono ?_
  rintro e w9 ⟨rfl, hb⟩
  have Ow' := Lib.hid (Ow.out.below (hb.mono (by have := S1.out; have := S2.out; have := S3.out; have := S4.out; have := S5.out; have := S6.out; have := S7.out; have := S8.out; omega)))
  have Og' := Lib.hid (Og.out.below (hb.mono (by have := S1.out; have := S2.out; have := S3.out; have := S4.out; have := S5.out; have := S6.out; have := S7.out; have := S8.out; omega)))
  clear Ow Og
  have Ow := Ow'
  have Og := Og'
  clear Ow' Og'
  have S9 := Lib.hid hb.size
  have B9 := Lib.hid (B8.out.trans (hb.mono B8.out.size))
  clear hb B8
  go_wp2_with fail
  refine (markE_any _ _ _ _ _ _ _ Og.out (by omega) (by have := hr1.out; omega)).mono ?_
  rintro e w10 ⟨rfl, ho, hb⟩
  have Ow' := Lib.hid (Ow.out.only hb (by have := S1.out; have := S2.out; have := S3.out; have := S4.out; have := S5.out; have := S6.out; have := S7.out; have := S8.out; have := S9.out; omega) (by have := S1.out; have := S2.out; have := S3.out; have := S4.out; have := S5.out; have := S6.out; have := S7.out; have := S8.out; have := S9.out; omega))
  clear Ow
  have Ow := Ow'
  clear Ow'
  have S10 : Hid (w9.heap.size ≤ w10.heap.size) := hb.size
  have B10 := Lib.hid (B9.out.trans (hb.below (by have := S1.out; have := S2.out; have := S3.out; have := S4.out; have := S5.out; have := S6.out; have := S7.out; have := S8.out; have := S9.out; have := S10.out; omega) (by have := S1.out; have := S2.out; have := S3.out; have := S4.out; have := S5.out; have := S6.out; have := S7.out; have := S8.out; have := S9.out; have := S10.out; omega)))
  clear Og
  have Og := Lib.hid ho
  clear ho hb B9
  go_wp2_with fail
  refine (heldE_any _ _ _ _ _ _ Og.out (by omega) (by have := hr1.out; omega)).mono ?_
  rintro e w' ⟨rfl, rfl⟩
  go_wp2_with fail
  refine (toEventS_any _ l _ ((H0.out.below B10.out).more B10.out.size) hl1.out).mono ?_
  rintro e w11 ⟨v11, rfl, ho, hb⟩
  have Ow' := Lib.hid (Ow.out.below (hb.mono (by have := S1.out; have := S2.out; have := S3.out; have := S4.out; have := S5.out; have := S6.out; have := S7.out; have := S8.out; have := S9.out; have := S10.out; omega)))
  have Og' := Lib.hid (Og.out.below (hb.mono (by have := S1.out; have := S2.out; have := S3.out; have := S4.out; have := S5.out; have := S6.out; have := S7.out; have := S8.out; have := S9.out; have := S10.out; omega)))
  clear Ow Og
  have Ow := Ow'
  have Og := Og'
  clear Ow' Og'
  have S11 := Lib.hid hb.size
  have Oz := Lib.hid ho
  clear ho
  have B11 := Lib.hid (B10.out.trans (hb.mono B10.out.size))
  clear hb B10
  go_wp2_with fail
  refine (implMirror_any _ l _ ((RdS.of_own Ev.len Oz.out).more (by have := S1.out; have := S2.out; have := S3.out; have := S4.out; have := S5.out; have := S6.out; have := S7.out; have := S8.out; have := S9.out; have := S10.out; have := S11.out; omega)) hl1.out).mono ?_
  rintro e w12 ⟨v12, rfl, ho, hb⟩
  have Ow' := Lib.hid (Ow.out.below (hb.mono (by have := S1.out; have := S2.out; have := S3.out; have := S4.out; have := S5.out; have := S6.out; have := S7.out; have := S8.out; have := S9.out; have := S10.out; have := S11.out; omega)))
  have Og' := Lib.hid (Og.out.below (hb.mono (by have := S1.out; have := S2.out; have := S3.out; have := S4.out; have := S5.out; have := S6.out; have := S7.out; have := S8.out; have := S9.out; have := S10.out; have := S11.out; omega)))
  have Oz' := Lib.hid (Oz.out.below (hb.mono (by have := S1.out; have := S2.out; have := S3.out; have := S4.out; have := S5.out; have := S6.out; have := S7.out; have := S8.out; have := S9.out; have := S10.out; have := S11.out; omega)))
  clear Ow Og Oz
  have Ow := Ow'
  have Og := Og'
  have Oz := Oz'
  clear Ow' Og' Oz'
  have S12 := Lib.hid hb.size
  have Oh := Lib.hid ho
  clear ho
  have B12 := Lib.hid (B11.out.trans (hb.mono B11.out.size))
  clear hb B11
  clear Oz
  go_wp2_with fail
  refine (eqEventS_any _ _ (mirL l) (mirL l) _ _ ((RdS.of_own Ev.len Oh.out).more (by have := S1.out; have := S2.out; have := S3.out; have := S4.out; have := S5.out; have := S6.out; have := S7.out; have := S8.out; have := S9.out; have := S10.out; have := S11.out; have := S12.out; omega)) ((RdS.of_own Ev.len Ow.out).more (by have := S1.out; have := S2.out; have := S3.out; have := S4.out; have := S5.out; have := S6.out; have := S7.out; have := S8.out; have := S9.out; have := S10.out; have := S11.out; have := S12.out; omega)) (Nat.le_refl _)).mono ?_
  rintro e w13 ⟨rfl, hb⟩
  have Ow' := Lib.hid (Ow.out.below (hb.mono (by have := S1.out; have := S2.out; have := S3.out; have := S4.out; have := S5.out; have := S6.out; have := S7.out; have := S8.out; have := S9.out; have := S10.out; have := S11.out; have := S12.out; omega)))
  have Og' := Lib.hid (Og.out.below (hb.mono (by have := S1.out; have := S2.out; have := S3.out; have := S4.out; have := S5.out; have := S6.out; have := S7.out; have := S8.out; have := S9.out; have := S10.out; have := S11.out; have := S12.out; omega)))
  have Oh' := Lib.hid (Oh.out.below (hb.mono (by have := S1.out; have := S2.out; have := S3.out; have := S4.out; have := S5.out; have := S6.out; have := S7.out; have := S8.out; have := S9.out; have := S10.out; have := S11.out; have := S12.out; omega)))
  clear Ow Og Oh
  have Ow := Ow'
  have Og := Og'
  have Oh := Oh'
  clear Ow' Og' Oh'
  have S13 := Lib.hid hb.size
  have B13 := Lib.hid (B12.out.trans (hb.mono B12.out.size))
  clear hb B12
  clear Oh
  clear Ow
  go_wp2_with fail
  refine (heldE_any _ _ _ _ _ _ Og.out (by omega) (by have := hr1.out; omega)).mono ?_
  rintro e w' ⟨rfl, rfl⟩
  clear Og
  go_wp2
  go_ret
  exact ⟨rfl, B13.out⟩

set_option maxRecDepth 100000 in
theorem FnExactMirrorEvents.walk {H : Type} {enc : TypeId × Value → H} {base : Nat} {d0 : DataW H} {p0 : List MemPlace} (W : World) (v0 : Value) (o0 : Value.okWide Try.prog W .any base 30 v0)
    (h0 : DataW.Trod enc Try.prog W 0 (fun _ => true) true 30 v0 d0 p0) : Calls Try.prog 12 #[v0] W fun e W' => e = .returned (.bool true) ∧ Below W.heap.size W W' := by
  obtain ⟨l, hl, _⟩ := open_evs o0 h0
  exact FnExactMirrorEvents.core v0 l W hl

namespace FnExactMirrorEvents
theorem own : ownKnob Try.prog.godebug = none := by kernel_rfl
theorem laidOut : laidOutB Try.prog = true := by kernel_rfl

set_option maxRecDepth 100000 in
theorem lifted (os : Os) (started : os.Started) (H : Type) (enc : TypeId × Value → H) :
    ReturnsInHanded {} Try.checked os 12 .any (Rows.fnExactMirrorEventsSpec.pre6 enc Try.prog Try.f12 Rows.fnExactMirrorEventsRow.domain false) (Rows.fnExactMirrorEventsSpec.post enc Try.prog Try.f12 false true false false) := by
  refine returnsInHanded_of_change (C := Try.checked) own started (by kernel_rfl) Try.func12
    (ChangeSpec.witness6 (enc := enc) (C := Try.checked) false ⟨#[], #[.slice none 0 0], []⟩ 8 (by kernel_rfl) (by kernel_rfl) (by kernel_rfl) (by kernel_rfl)) ?_
  intro W base args ds gs before hval0 hW hcnd _
  have hval : ∀ (j : Nat) t v, Try.f12.params[j]? = some t → args[j]? = some v → Value.okWide Try.prog W .any base t v := hval0
  have hW' := hW
  obtain ⟨p, q, hA0, hV, rfl, hfz, hnd⟩ := hW
  have hA : DataW.TrodAll enc Try.prog W 0 (fun _ => true) true Try.f12.params.toList args.toList ds p := hA0
  rw [Try.params12] at hA hval
  obtain ⟨v0, vs0, d0, ds0, p0, q0, hargs, rfl, rfl, h0, r0⟩ := trodAll_cons hA
  obtain ⟨rfl, rfl, rfl⟩ := trodAll_nil r0
  obtain rfl : args = #[v0] := by cases args; simp_all
  obtain ⟨rfl, rfl⟩ := trodVars_none hV
  have k0 := h0
  have lt0 : ∀ x ∈ p0, x.block < W.heap.size := by obtain ⟨m, hm⟩ := k0; exact DataW.trod_lt m _ _ _ hm
  clear hA0 hval0
  refine (walk W v0 (hval 0 _ v0 rfl rfl) h0).mono fun e W' ⟨he, bel⟩ => ?_
  subst he
  exact ⟨_, rfl, _, _, _, [], _, [], hW', trodAll_mk1 (shut_bool Try.underlying4 _), (trodAll_cons_mk (Below.trod laidOut (by kernel_rfl) (of_decide_eq_true (by kernel_rfl)) k0 bel lt0) trodAll_mk0), rfl, bel.frame _, fun h => by cases h⟩

theorem over : Rows.fnExactMirrorEventsRow.holds Try.pinned (OpenSpec.ofChange Rows.fnExactMirrorEventsSpec) :=
  OpenClaim.holds_of_wide 12 Try.f12 rfl rfl rfl rfl rfl rfl rfl ⟨rfl, rfl, rfl, rfl, rfl⟩ rfl rfl rfl rfl rfl (by kernel_rfl) Try.func12 (by kernel_rfl)
    (of_decide_eq_true (by kernel_rfl)) (by unfold Func.isWrapper; first | (rw [if_pos (by decide +kernel)]; kernel_rfl) | (rw [if_neg (by decide +kernel)]; exact ⟨rfl, rfl⟩))
    (fun os started H enc _ => lifted os started H enc)

theorem proved : Rows.FnExactMirrorEventsSaid := over
end FnExactMirrorEvents

end Go.Proofs.Ytmgicdcpeblpnaa
