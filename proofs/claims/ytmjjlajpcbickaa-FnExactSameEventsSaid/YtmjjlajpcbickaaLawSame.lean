/-
  The program's SameEvents returns what the reference's returns, for every two lists; no condition.
-/
import Derived.Test.YtmjjlajpcbickaaSame
import Derived.Test.YtmjjlajpcbickaaOpenEv
namespace Go.Proofs.Ytmjjlajpcbickaa
open Go.ChangeShapes Go.WideShapes Go.ChangeAt Go.RowKit
open Go.ChangeMaps (open_string shut_string)

theorem szOf_no {left : Int} {n : Nat} (h : ¬ (n : Int) ≤ left) : szOf left n = -1 := by simp [szOf, h]
theorem szOf_yes {left : Int} {n : Nat} (h : (n : Int) ≤ left) : szOf left n = left - n := by simp [szOf, h]

theorem implSame_any (v u : Value) (l m : List Ev) (w : World) (B : Nat) (hl : RdE w B v l) (hm : RdE w B u m) (hB : B ≤ w.heap.size) :
    Calls Try.prog 24 #[v, u] w fun x w' => x = .returned (.bool (decide (l = m))) ∧ Below w.heap.size w w' := by
  go_enter Try.func24, Try.ntmps24
  go_wp2_with (go_at_call 32; refine (eqlEvents_any _ _ l m _ _ hl hm hB).mono ?_; rintro e w1 ⟨rfl, hb1⟩)
  go_ret
  exact ⟨rfl, hb1⟩

set_option maxHeartbeats 4000000 in
theorem FnExactSameEvents.core (v u : Value) (l m : List Ev) (W : World) (hl : RdE W W.heap.size v l) (hm : RdE W W.heap.size u m) :
    Calls Try.prog 8 #[v, u] W fun e W' => e = .returned (.bool true) ∧ Below W.heap.size W W' := by
  have HL := Lib.hid hl
  have HM := Lib.hid hm
  clear hl hm
  by_cases h1 : (l.length : Int) ≤ 1048576
  case neg =>
    have hs := Lib.hid (szOf_no h1)
    clear h1
    go_enter Try.func8, Try.ntmps8
    go_wp2_with (go_at_call 21; refine (szEventS_any _ l _ _ _ HL.out (by omega) (by omega)).mono ?_; rintro e w1 ⟨rfl, rfl⟩; rw [hs.out])
    go_ret
    exact ⟨rfl, Below.refl _ _⟩
  have hl1 : Hid (l.length ≤ 1048576) := by unfold Hid; omega
  have hs := Lib.hid (szOf_yes h1)
  by_cases h2 : (m.length : Int) ≤ 1048576 - l.length
  case neg =>
    have hs2 := Lib.hid (szOf_no h2)
    clear h2
    go_enter Try.func8, Try.ntmps8
    go_wp2_with fail
    refine (szEventS_any _ l _ _ _ HL.out (by omega) (by omega)).mono ?_
    rintro e w1 ⟨rfl, rfl⟩
    rw [hs.out]
    go_wp2_with fail
    refine (szEventS_any _ m _ _ _ HM.out (by omega) (by omega)).mono ?_
    rintro e w1 ⟨rfl, rfl⟩
    rw [hs2.out]
    clear h1
    go_wp2
    go_ret
    exact ⟨rfl, Below.refl _ _⟩
  have hm1 : Hid (m.length ≤ 1048576) := by unfold Hid; omega
  have hs2 := Lib.hid (szOf_yes h2)
  have h3 : 0 ≤ 1048576 - (l.length : Int) - (m.length : Int) := by omega
  go_enter Try.func8, Try.ntmps8
  go_wp2_with fail
  refine (szEventS_any _ l _ _ _ HL.out (by omega) (by omega)).mono ?_
  rintro e w1 ⟨rfl, rfl⟩
  rw [hs.out]
  go_wp2_with fail
  refine (szEventS_any _ m _ _ _ HM.out (by omega) (by omega)).mono ?_
  rintro e w1 ⟨rfl, rfl⟩
  rw [hs2.out]
  go_wp2_with fail
  clear h1 h2 h3
  refine (toEventS_any _ l _ HL.out hl1.out).mono ?_
  rintro e w1 ⟨v1, rfl, ho, hb⟩
  have R1 := Lib.hid (RdS.of_own Ev.len ho)
  have B1 := Lib.hid hb
  clear ho hb
  go_wp2_with fail
  refine (toEventS_any _ m _ ((HM.out.below B1.out).more B1.out.size) hm1.out).mono ?_
  rintro e w2 ⟨v2, rfl, ho, hb⟩
  have R2 := Lib.hid (RdS.of_own Ev.len ho)
  have R1' := Lib.hid ((R1.out.below hb).more hb.size)
  have B2 := Lib.hid (B1.out.trans (hb.mono B1.out.size))
  clear ho hb R1
  go_wp2_with fail
  refine (specSameEvents_any _ _ l m _ _ R1'.out R2.out (Nat.le_refl _)).mono ?_
  rintro e w3 ⟨rfl, hb⟩
  have B3 := Lib.hid (B2.out.trans (hb.mono B2.out.size))
  clear hb R1' R2
  go_wp2_with fail
  refine (toEventS_any _ l _ ((HL.out.below B3.out).more B3.out.size) hl1.out).mono ?_
  rintro e w4 ⟨v4, rfl, ho, hb⟩
  have R4 := Lib.hid (RdS.of_own Ev.len ho)
  have B4 := Lib.hid (B3.out.trans (hb.mono B3.out.size))
  clear ho hb
  go_wp2_with fail
  refine (toEventS_any _ m _ ((HM.out.below B4.out).more B4.out.size) hm1.out).mono ?_
  rintro e w5 ⟨v5, rfl, ho, hb⟩
  have R5 := Lib.hid (RdS.of_own Ev.len ho)
  have R4' := Lib.hid ((R4.out.below hb).more hb.size)
  have B5 := Lib.hid (B4.out.trans (hb.mono B4.out.size))
  clear ho hb R4
  go_wp2_with fail
  refine (implSame_any _ _ l m _ _ R4'.out R5.out (Nat.le_refl _)).mono ?_
  rintro e w6 ⟨rfl, hb⟩
  have R4 := Lib.hid ((R4'.out.below hb).more hb.size)
  have R5' := Lib.hid ((R5.out.below hb).more hb.size)
  have B6 := Lib.hid (B5.out.trans (hb.mono B5.out.size))
  clear hb R4' R5
  go_wp2_with fail
  refine (toEventS_any _ l _ ((HL.out.below B6.out).more B6.out.size) hl1.out).mono ?_
  rintro e w7 ⟨v7, rfl, ho, hb⟩
  have R7 := Lib.hid (RdS.of_own Ev.len ho)
  have R4' := Lib.hid ((R4.out.below hb).more hb.size)
  have R5 := Lib.hid ((R5'.out.below hb).more hb.size)
  have B7 := Lib.hid (B6.out.trans (hb.mono B6.out.size))
  clear ho hb R4 R5'
  go_wp2_with fail
  refine (eqEventS_any _ _ l l _ _ R4'.out R7.out (Nat.le_refl _)).mono ?_
  rintro e w8 ⟨rfl, hb⟩
  have R5' := Lib.hid ((R5.out.below hb).more hb.size)
  have B8 := Lib.hid (B7.out.trans (hb.mono B7.out.size))
  clear hb R4' R7 R5
  go_wp2_with fail
  refine (toEventS_any _ m _ ((HM.out.below B8.out).more B8.out.size) hm1.out).mono ?_
  rintro e w9 ⟨v9, rfl, ho, hb⟩
  have R9 := Lib.hid (RdS.of_own Ev.len ho)
  have R5 := Lib.hid ((R5'.out.below hb).more hb.size)
  have B9 := Lib.hid (B8.out.trans (hb.mono B8.out.size))
  clear ho hb R5'
  go_wp2_with fail
  refine (eqEventS_any _ _ m m _ _ R5.out R9.out (Nat.le_refl _)).mono ?_
  rintro e w10 ⟨rfl, hb⟩
  have B10 := Lib.hid (B9.out.trans (hb.mono B9.out.size))
  clear hb
  go_wp2
  go_ret
  exact ⟨rfl, B10.out⟩

theorem FnExactSameEvents.walk {H : Type} {enc : TypeId × Value → H} {base : Nat} {d0 d1 : DataW H} {p0 p1 : List MemPlace} (W : World) (v0 v1 : Value) (o0 : Value.okWide Try.prog W .any base 30 v0) (o1 : Value.okWide Try.prog W .any base 30 v1)
    (h0 : DataW.Trod enc Try.prog W 0 (fun _ => true) true 30 v0 d0 p0) (h1 : DataW.Trod enc Try.prog W 0 (fun _ => true) true 30 v1 d1 p1) :
    Calls Try.prog 8 #[v0, v1] W fun e W' => e = .returned (.bool true) ∧ Below W.heap.size W W' := by
  obtain ⟨l, hl, _⟩ := open_evs o0 h0
  obtain ⟨m, hm, _⟩ := open_evs o1 h1
  exact FnExactSameEvents.core v0 v1 l m W hl hm

namespace FnExactSameEvents
theorem own : ownKnob Try.prog.godebug = none := by kernel_rfl
theorem laidOut : laidOutB Try.prog = true := by kernel_rfl

set_option maxRecDepth 100000 in
theorem lifted (os : Os) (started : os.Started) (H : Type) (enc : TypeId × Value → H) :
    ReturnsInHanded {} Try.checked os 8 .any (Rows.fnExactSameEventsSpec.pre6 enc Try.prog Try.f8 Rows.fnExactSameEventsRow.domain false) (Rows.fnExactSameEventsSpec.post enc Try.prog Try.f8 false true false false) := by
  refine returnsInHanded_of_change (C := Try.checked) own started (by kernel_rfl) Try.func8
    (ChangeSpec.witness6 (enc := enc) (C := Try.checked) false ⟨#[], #[.slice none 0 0, .slice none 0 0], []⟩ 8 (by kernel_rfl) (by kernel_rfl) (by kernel_rfl) (by kernel_rfl)) ?_
  intro W base args ds gs before hval0 hW hcnd _
  have hval : ∀ (j : Nat) t v, Try.f8.params[j]? = some t → args[j]? = some v → Value.okWide Try.prog W .any base t v := hval0
  have hW' := hW
  obtain ⟨p, q, hA0, hV, rfl, hfz, hnd⟩ := hW
  have hA : DataW.TrodAll enc Try.prog W 0 (fun _ => true) true Try.f8.params.toList args.toList ds p := hA0
  rw [Try.params8] at hA hval
  obtain ⟨v0, vs0, d0, ds0, p0, q0, hargs, rfl, rfl, h0, r0⟩ := trodAll_cons hA
  obtain ⟨v1, vs1, d1, ds1, p1, q1, rfl, rfl, rfl, h1, r1⟩ := trodAll_cons r0
  obtain ⟨rfl, rfl, rfl⟩ := trodAll_nil r1
  obtain rfl : args = #[v0, v1] := by cases args; simp_all
  obtain ⟨rfl, rfl⟩ := trodVars_none hV
  have k0 := h0
  have lt0 : ∀ x ∈ p0, x.block < W.heap.size := by obtain ⟨m, hm⟩ := k0; exact DataW.trod_lt m _ _ _ hm
  have k1 := h1
  have lt1 : ∀ x ∈ p1, x.block < W.heap.size := by obtain ⟨m, hm⟩ := k1; exact DataW.trod_lt m _ _ _ hm
  clear hA0 hval0
  refine (walk W v0 v1 (hval 0 _ v0 rfl rfl) (hval 1 _ v1 rfl rfl) h0 h1).mono fun e W' ⟨he, bel⟩ => ?_
  subst he
  exact ⟨_, rfl, _, _, _, [], _, [], hW', trodAll_mk1 (shut_bool Try.underlying4 _), (trodAll_cons_mk (Below.trod laidOut (by kernel_rfl) (of_decide_eq_true (by kernel_rfl)) k0 bel lt0) (trodAll_cons_mk (Below.trod laidOut (by kernel_rfl) (of_decide_eq_true (by kernel_rfl)) k1 bel lt1) trodAll_mk0)), rfl, bel.frame _, fun h => by cases h⟩

theorem over : Rows.fnExactSameEventsRow.holds Try.pinned (OpenSpec.ofChange Rows.fnExactSameEventsSpec) :=
  OpenClaim.holds_of_wide 8 Try.f8 rfl rfl rfl rfl rfl rfl rfl ⟨rfl, rfl, rfl, rfl, rfl⟩ rfl rfl rfl rfl rfl (by kernel_rfl) Try.func8 (by kernel_rfl)
    (of_decide_eq_true (by kernel_rfl)) (by unfold Func.isWrapper; first | (rw [if_pos (by decide +kernel)]; kernel_rfl) | (rw [if_neg (by decide +kernel)]; exact ⟨rfl, rfl⟩))
    (fun os started H enc _ => lifted os started H enc)

theorem proved : Rows.FnExactSameEventsSaid := over
end FnExactSameEvents

end Go.Proofs.Ytmjjlajpcbickaa
