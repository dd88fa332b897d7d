/-
  The program's ValidEvents and StrandsOf return what the reference's return, for every list of events; no condition.
-/
import Derived.Test.YtmgicdcpeblpnaaCount
import Derived.Test.YtmgicdcpeblpnaaSame
import Derived.Test.YtmgicdcpeblpnaaOpenEv
namespace Go.Proofs.Ytmgicdcpeblpnaa
set_option linter.unusedVariables false
set_option linter.unusedSimpArgs false
open Go.ChangeShapes Go.WideShapes Go.ChangeAt Go.RowKit
open Go.ChangeMaps (open_string shut_string)

/- a law over one list of events whose results are plain: FnExactValidEvents law · fnExactValidEvents its name in Rows · (fun v l w h => specValidEvents_any v l w w.heap.size h (Nat.le_refl _)), (fun v l w h => implValidEvents_any v l w w.heap.size h (Nat.le_refl _)) the contracts of reference and program (v l w, a reading below the heap's size) · skip what brings their ending to an equation -/
set_option maxHeartbeats 4000000 in
theorem FnExactValidEvents.core (v : Value) (l : List Ev) (W : World) (hl : RdE W W.heap.size v l) :
    Calls Try.prog 7 #[v] W fun e W' => e = .returned (.bool true) ∧ Below W.heap.size W W' := by
  have HL := Lib.hid hl
  clear hl
  by_cases h1 : (l.length : Int) ≤ 1048576
  case neg =>
    have hs := Lib.hid (szOf_no h1)
    clear h1
    go_enter Try.func7, Try.ntmps7
    go_wp2_with (go_at_call 22; refine (szEventS_any _ l _ _ _ HL.out (by omega) (by omega)).mono ?_; rintro e w1 ⟨rfl, rfl⟩; rw [hs.out])
    go_ret
    exact ⟨rfl, Below.refl _ _⟩
  have hl1 : Hid (l.length ≤ 1048576) := by unfold Hid; omega
  have hs := Lib.hid (szOf_yes h1)
  have h3 : 0 ≤ 1048576 - (l.length : Int) := by omega
  go_enter Try.func7, Try.ntmps7
  go_wp2_with fail
  refine (szEventS_any _ l _ _ _ HL.out (by omega) (by omega)).mono ?_
  rintro e w1 ⟨rfl, rfl⟩
  rw [hs.out]
  go_wp2_with fail
  clear h1 h3
  refine (toEventS_any _ l _ HL.out hl1.out).mono ?_
  rintro e w1 ⟨v1, rfl, ho, hb⟩
  have R1 := Lib.hid (RdS.of_own Ev.len ho)
  have B1 := Lib.hid hb
  clear ho hb
  go_wp2_with fail
  refine ((fun v l w h => specValidEvents_any v l w w.heap.size h (Nat.le_refl _)) _ l _ R1.out).mono ?_
  rintro e w3 ⟨he, hb⟩
  skip
  subst he
  have B3 := Lib.hid (B1.out.trans (hb.mono B1.out.size))
  clear hb R1
  go_wp2_with fail
  refine (toEventS_any _ l _ ((HL.out.below B3.out).more B3.out.size) hl1.out).mono ?_
  rintro e w4 ⟨v4, rfl, ho, hb⟩
  have R4 := Lib.hid (RdS.of_own Ev.len ho)
  have B4 := Lib.hid (B3.out.trans (hb.mono B3.out.size))
  clear ho hb
  go_wp2_with fail
  refine ((fun v l w h => implValidEvents_any v l w w.heap.size h (Nat.le_refl _)) _ l _ R4.out).mono ?_
  rintro e w6 ⟨he, hb⟩
  skip
  subst he
  have R4' := Lib.hid ((R4.out.below hb).more hb.size)
  have B6 := Lib.hid (B4.out.trans (hb.mono B4.out.size))
  clear hb R4
  go_wp2_with fail
  refine (toEventS_any _ l _ ((HL.out.below B6.out).more B6.out.size) hl1.out).mono ?_
  rintro e w7 ⟨v7, rfl, ho, hb⟩
  have R7 := Lib.hid (RdS.of_own Ev.len ho)
  have R4 := Lib.hid ((R4'.out.below hb).more hb.size)
  have B7 := Lib.hid (B6.out.trans (hb.mono B6.out.size))
  clear ho hb R4'
  go_wp2_with fail
  refine (eqEventS_any _ _ l l _ _ R4.out R7.out (Nat.le_refl _)).mono ?_
  rintro e w8 ⟨rfl, hb⟩
  have B8 := Lib.hid (B7.out.trans (hb.mono B7.out.size))
  clear hb
  go_wp2
  go_ret
  exact ⟨rfl, B8.out⟩

set_option maxRecDepth 100000 in
theorem FnExactValidEvents.walk {H : Type} {enc : TypeId × Value → H} {base : Nat} {d0 : DataW H} {p0 : List MemPlace} (W : World) (v0 : Value) (o0 : Value.okWide Try.prog W .any base 30 v0)
    (h0 : DataW.Trod enc Try.prog W 0 (fun _ => true) true 30 v0 d0 p0) : Calls Try.prog 7 #[v0] W fun e W' => e = .returned (.bool true) ∧ Below W.heap.size W W' := by
  obtain ⟨l, hl, _⟩ := open_evs o0 h0
  exact FnExactValidEvents.core v0 l W hl

namespace FnExactValidEvents
theorem own : ownKnob Try.prog.godebug = none := by kernel_rfl
theorem laidOut : laidOutB Try.prog = true := by kernel_rfl

set_option maxRecDepth 100000 in
theorem lifted (os : Os) (started : os.Started) (H : Type) (enc : TypeId × Value → H) :
    ReturnsInHanded {} Try.checked os 7 .any (Rows.fnExactValidEventsSpec.pre6 enc Try.prog Try.f7 Rows.fnExactValidEventsRow.domain false) (Rows.fnExactValidEventsSpec.post enc Try.prog Try.f7 false true false false) := by
  refine returnsInHanded_of_change (C := Try.checked) own started (by kernel_rfl) Try.func7
    (ChangeSpec.witness6 (enc := enc) (C := Try.checked) false ⟨#[], #[.slice none 0 0], []⟩ 8 (by kernel_rfl) (by kernel_rfl) (by kernel_rfl) (by kernel_rfl)) ?_
  intro W base args ds gs before hval0 hW hcnd _
  have hval : ∀ (j : Nat) t v, Try.f7.params[j]? = some t → args[j]? = some v → Value.okWide Try.prog W .any base t v := hval0
  have hW' := hW
  obtain ⟨p, q, hA0, hV, rfl, hfz, hnd⟩ := hW
  have hA : DataW.TrodAll enc Try.prog W 0 (fun _ => true) true Try.f7.params.toList args.toList ds p := hA0
  rw [Try.params7] at hA hval
  obtain ⟨v0, vs0, d0, ds0, p0, q0, hargs, rfl, rfl, h0, r0⟩ := trodAll_cons hA
  obtain ⟨rfl, rfl, rfl⟩ := trodAll_nil r0
  obtain rfl : args = #[v0] := by cases args; simp_all
  obtain ⟨rfl, rfl⟩ := trodVars_none hV
  have k0 := h0
  have lt0 : ∀ x ∈ p0, x.block < W.heap.size := by obtain ⟨m, hm⟩ := k0; exact DataW.trod_lt m _ _ _ hm
  clear hA0 hval0
  refine (walk W v0 (hval 0 _ v0 rfl rfl) h0).mono fun e W' ⟨he, bel⟩ => ?_
  subst he
  exact ⟨_, rfl, _, _, _, [], _, [], hW', trodAll_mk1 (shut_bool Try.underlying4 _), (trodAll_cons_mk (Below.trod laidOut (by kernel_rfl) (of_decide_eq_true (by kernel_rfl)) k0 bel lt0) trodAll_mk0), rfl, bel.frame _, fun h => by cases h⟩

theorem over : Rows.fnExactValidEventsRow.holds Try.pinned (OpenSpec.ofChange Rows.fnExactValidEventsSpec) :=
  OpenClaim.holds_of_wide 7 Try.f7 rfl rfl rfl rfl rfl rfl rfl ⟨rfl, rfl, rfl, rfl, rfl⟩ rfl rfl rfl rfl rfl (by kernel_rfl) Try.func7 (by kernel_rfl)
    (of_decide_eq_true (by kernel_rfl)) (by unfold Func.isWrapper; first | (rw [if_pos (by decide +kernel)]; kernel_rfl) | (rw [if_neg (by decide +kernel)]; exact ⟨rfl, rfl⟩))
    (fun os started H enc _ => lifted os started H enc)

theorem proved : Rows.FnExactValidEventsSaid := over
end FnExactValidEvents
/- a law over one list of events whose results are plain: FnExactStrandsOf law · fnExactStrandsOf its name in Rows · specStrandsOf_any, implStrandsOf_any the contracts of reference and program (v l w, a reading below the heap's size) · unfold strandsR at he what brings their ending to an equation -/
set_option maxHeartbeats 4000000 in
theorem FnExactStrandsOf.core (v : Value) (l : List Ev) (W : World) (hl : RdE W W.heap.size v l) :
    Calls Try.prog 8 #[v] W fun e W' => e = .returned (.bool true) ∧ Below W.heap.size W W' := by
  have HL := Lib.hid hl
  clear hl
  by_cases h1 : (l.length : Int) ≤ 1048576
  case neg =>
    have hs := Lib.hid (szOf_no h1)
    clear h1
    go_enter Try.func8, Try.ntmps8
    go_wp2_with (go_at_call 22; refine (szEventS_any _ l _ _ _ HL.out (by omega) (by omega)).mono ?_; rintro e w1 ⟨rfl, rfl⟩; rw [hs.out])
    go_ret
    exact ⟨rfl, Below.refl _ _⟩
  have hl1 : Hid (l.length ≤ 1048576) := by unfold Hid; omega
  have hs := Lib.hid (szOf_yes h1)
  have h3 : 0 ≤ 1048576 - (l.length : Int) := by omega
  go_enter Try.func8, Try.ntmps8
  go_wp2_with fail
  refine (szEventS_any _ l _ _ _ HL.out (by omega) (by omega)).mono ?_
  rintro e w1 ⟨rfl, rfl⟩
  rw [hs.out]
  go_wp2_with fail
  clear h1 h3
  refine (toEventS_any _ l _ HL.out hl1.out).mono ?_
  rintro e w1 ⟨v1, rfl, ho, hb⟩
  have R1 := Lib.hid (RdS.of_own Ev.len ho)
  have B1 := Lib.hid hb
  clear ho hb
  go_wp2_with fail
  refine (specStrandsOf_any _ l _ R1.out).mono ?_
  rintro e w3 ⟨he, hb⟩
  unfold strandsR at he
  subst he
  have B3 := Lib.hid (B1.out.trans (hb.mono B1.out.size))
  clear hb R1
  go_wp2_with fail
  refine (toEventS_any _ l _ ((HL.out.below B3.out).more B3.out.size) hl1.out).mono ?_
  rintro e w4 ⟨v4, rfl, ho, hb⟩
  have R4 := Lib.hid (RdS.of_own Ev.len ho)
  have B4 := Lib.hid (B3.out.trans (hb.mono B3.out.size))
  clear ho hb
  go_wp2_with fail
  refine (implStrandsOf_any _ l _ R4.out).mono ?_
  rintro e w6 ⟨he, hb⟩
  unfold strandsR at he
  subst he
  have R4' := Lib.hid ((R4.out.below hb).more hb.size)
  have B6 := Lib.hid (B4.out.trans (hb.mono B4.out.size))
  clear hb R4
  go_wp2_with fail
  refine (toEventS_any _ l _ ((HL.out.below B6.out).more B6.out.size) hl1.out).mono ?_
  rintro e w7 ⟨v7, rfl, ho, hb⟩
  have R7 := Lib.hid (RdS.of_own Ev.len ho)
  have R4 := Lib.hid ((R4'.out.below hb).more hb.size)
  have B7 := Lib.hid (B6.out.trans (hb.mono B6.out.size))
  clear ho hb R4'
  go_wp2_with fail
  refine (eqEventS_any _ _ l l _ _ R4.out R7.out (Nat.le_refl _)).mono ?_
  rintro e w8 ⟨rfl, hb⟩
  have B8 := Lib.hid (B7.out.trans (hb.mono B7.out.size))
  clear hb
  go_wp2
  go_ret
  exact ⟨rfl, B8.out⟩

set_option maxRecDepth 100000 in
theorem FnExactStrandsOf.walk {H : Type} {enc : TypeId × Value → H} {base : Nat} {d0 : DataW H} {p0 : List MemPlace} (W : World) (v0 : Value) (o0 : Value.okWide Try.prog W .any base 30 v0)
    (h0 : DataW.Trod enc Try.prog W 0 (fun _ => true) true 30 v0 d0 p0) : Calls Try.prog 8 #[v0] W fun e W' => e = .returned (.bool true) ∧ Below W.heap.size W W' := by
  obtain ⟨l, hl, _⟩ := open_evs o0 h0
  exact FnExactStrandsOf.core v0 l W hl

namespace FnExactStrandsOf
theorem own : ownKnob Try.prog.godebug = none := by kernel_rfl
theorem laidOut : laidOutB Try.prog = true := by kernel_rfl

set_option maxRecDepth 100000 in
theorem lifted (os : Os) (started : os.Started) (H : Type) (enc : TypeId × Value → H) :
    ReturnsInHanded {} Try.checked os 8 .any (Rows.fnExactStrandsOfSpec.pre6 enc Try.prog Try.f8 Rows.fnExactStrandsOfRow.domain false) (Rows.fnExactStrandsOfSpec.post enc Try.prog Try.f8 false true false false) := by
  refine returnsInHanded_of_change (C := Try.checked) own started (by kernel_rfl) Try.func8
    (ChangeSpec.witness6 (enc := enc) (C := Try.checked) false ⟨#[], #[.slice none 0 0], []⟩ 8 (by kernel_rfl) (by kernel_rfl) (by kernel_rfl) (by kernel_rfl)) ?_
  intro W base args ds gs before hval0 hW hcnd _
  have hval : ∀ (j : Nat) t v, Try.f8.params[j]? = some t → args[j]? = some v → Value.okWide Try.prog W .any base t v := hval0
  have hW' := hW
  obtain ⟨p, q, hA0, hV, rfl, hfz, hnd⟩ := hW
  have hA : DataW.TrodAll enc Try.prog W 0 (fun _ => true) true Try.f8.params.toList args.toList ds p := hA0
  rw [Try.params8] at hA hval
  obtain ⟨v0, vs0, d0, ds0, p0, q0, hargs, rfl, rfl, h0, r0⟩ := trodAll_cons hA
  obtain ⟨rfl, rfl, rfl⟩ := trodAll_nil r0
  obtain rfl : args = #[v0] := by cases args; simp_all
  obtain ⟨rfl, rfl⟩ := trodVars_none hV
  have k0 := h0
  have lt0 : ∀ x ∈ p0, x.block < W.heap.size := by obtain ⟨m, hm⟩ := k0; exact DataW.trod_lt m _ _ _ hm
  clear hA0 hval0
  refine (walk W v0 (hval 0 _ v0 rfl rfl) h0).mono fun e W' ⟨he, bel⟩ => ?_
  subst he
  exact ⟨_, rfl, _, _, _, [], _, [], hW', trodAll_mk1 (shut_bool Try.underlying4 _), (trodAll_cons_mk (Below.trod laidOut (by kernel_rfl) (of_decide_eq_true (by kernel_rfl)) k0 bel lt0) trodAll_mk0), rfl, bel.frame _, fun h => by cases h⟩

theorem over : Rows.fnExactStrandsOfRow.holds Try.pinned (OpenSpec.ofChange Rows.fnExactStrandsOfSpec) :=
  OpenClaim.holds_of_wide 8 Try.f8 rfl rfl rfl rfl rfl rfl rfl ⟨rfl, rfl, rfl, rfl, rfl⟩ rfl rfl rfl rfl rfl (by kernel_rfl) Try.func8 (by kernel_rfl)
    (of_decide_eq_true (by kernel_rfl)) (by unfold Func.isWrapper; first | (rw [if_pos (by decide +kernel)]; kernel_rfl) | (rw [if_neg (by decide +kernel)]; exact ⟨rfl, rfl⟩))
    (fun os started H enc _ => lifted os started H enc)

theorem proved : Rows.FnExactStrandsOfSaid := over
end FnExactStrandsOf

end Go.Proofs.Ytmgicdcpeblpnaa
