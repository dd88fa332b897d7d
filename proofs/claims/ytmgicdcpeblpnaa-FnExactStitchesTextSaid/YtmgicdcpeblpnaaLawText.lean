/-
  The program's StitchesText returns what the reference's returns, for every list; no condition.
-/
import Derived.Test.YtmgicdcpeblpnaaText
import Derived.Test.YtmgicdcpeblpnaaOpen
namespace Go.Proofs.Ytmgicdcpeblpnaa
set_option linter.unusedVariables false
set_option linter.unusedSimpArgs false
open Go.ChangeShapes Go.WideShapes Go.ChangeAt Go.RowKit
open Go.ChangeMaps (open_string shut_string)

/- a law over one list of int64 whose results are plain: FnExactStitchesText law · fnExactStitchesText its name in Rows · specText_any, implText_any the contracts of reference and program -/
set_option maxHeartbeats 4000000 in
theorem FnExactStitchesText.core (v : Value) (l : List Int) (W : World) (hl : RdI W W.heap.size v l) :
    Calls Try.prog 4 #[v] W fun e W' => e = .returned (.bool true) ∧ Below W.heap.size W W' := by
  have hrd := hl
  have HR := Lib.hid hrd
  obtain ⟨A, n, c, rfl, hln, hl, gl⟩ := hl
  clear gl hrd
  by_cases hbig : n ≤ 1048576
  · have hd : decide (1048576 < (n : Int)) = false := by simp; omega
    have hlen : Hid (l.length ≤ 1048576) := by unfold Hid; rw [hl.out]; exact hbig
    go_enter Try.func4, Try.ntmps4
    go_wp2_with fail
    refine (toInt64S_any _ l _ HR.out hlen.out).mono ?_
    rintro e w1 ⟨v1, rfl, ho1, hb1⟩
    have R1 := Lib.hid (RdI.of_own ho1)
    have B1 := Lib.hid hb1
    clear ho1 hb1
    go_wp2_with fail
    refine (specText_any _ l _ R1.out).mono ?_
    rintro e w2 ⟨rfl, hb2⟩
    have B2 := Lib.hid (B1.out.trans (hb2.mono B1.out.size))
    clear hb2
    go_wp2_with fail
    refine (toInt64S_any _ l _ ((HR.out.below B2.out).more B2.out.size) hlen.out).mono ?_
    rintro e w3 ⟨v3, rfl, ho3, hb3⟩
    have R3 := Lib.hid (RdI.of_own ho3)
    have B3 := Lib.hid (B2.out.trans (hb3.mono B2.out.size))
    clear ho3 hb3
    go_wp2_with fail
    refine (implText_any _ l _ R3.out).mono ?_
    rintro e w4 ⟨rfl, hb4⟩
    have R4 := Lib.hid (R3.out.below hb4)
    have S4 := Lib.hid hb4.size
    have B4 := Lib.hid (B3.out.trans (hb4.mono B3.out.size))
    clear hb4
    go_wp2_with fail
    refine (toInt64S_any _ l _ ((HR.out.below B4.out).more B4.out.size) hlen.out).mono ?_
    rintro e w5 ⟨v5, rfl, ho5, hb5⟩
    have R5 := Lib.hid (RdI.of_own ho5)
    have R6 := Lib.hid ((R4.out.below (hb5.mono S4.out)).more (Nat.le_trans S4.out hb5.size))
    have B5 := Lib.hid (B4.out.trans (hb5.mono B4.out.size))
    clear ho5 hb5
    go_wp2_with fail
    refine (eqInt64S_any _ _ l l _ _ R6.out R5.out (Nat.le_refl _)).mono ?_
    rintro e w6 ⟨rfl, hb6⟩
    have B6 := Lib.hid (B5.out.trans (hb6.mono B5.out.size))
    clear hb6
    go_wp2
    go_ret
    exact ⟨rfl, B6.out⟩
  · have hd : decide (1048576 < (n : Int)) = true := by simp; omega
    go_enter Try.func4, Try.ntmps4
    go_wp2
    go_ret
    exact ⟨rfl, Below.refl _ _⟩

set_option maxRecDepth 100000 in
theorem FnExactStitchesText.walk {H : Type} {enc : TypeId × Value → H} {base : Nat} {d0 : DataW H} {p0 : List MemPlace} (W : World) (v0 : Value) (o0 : Value.okWide Try.prog W .any base 22 v0)
    (h0 : DataW.Trod enc Try.prog W 0 (fun _ => true) true 22 v0 d0 p0) : Calls Try.prog 4 #[v0] W fun e W' => e = .returned (.bool true) ∧ Below W.heap.size W W' := by
  obtain ⟨l, hl, _⟩ := open_rdI Try.underlying22 Try.underlying2 (by kernel_rfl) o0 h0
  exact FnExactStitchesText.core v0 l W hl

namespace FnExactStitchesText
theorem own : ownKnob Try.prog.godebug = none := by kernel_rfl
theorem laidOut : laidOutB Try.prog = true := by kernel_rfl

set_option maxRecDepth 100000 in
theorem lifted (os : Os) (started : os.Started) (H : Type) (enc : TypeId × Value → H) :
    ReturnsInHanded {} Try.checked os 4 .any (Rows.fnExactStitchesTextSpec.pre6 enc Try.prog Try.f4 Rows.fnExactStitchesTextRow.domain false) (Rows.fnExactStitchesTextSpec.post enc Try.prog Try.f4 false true false false) := by
  refine returnsInHanded_of_change (C := Try.checked) own started (by kernel_rfl) Try.func4
    (ChangeSpec.witness6 (enc := enc) (C := Try.checked) false ⟨#[], #[.slice none 0 0], []⟩ 8 (by kernel_rfl) (by kernel_rfl) (by kernel_rfl) (by kernel_rfl)) ?_
  intro W base args ds gs before hval0 hW hcnd _
  have hval : ∀ (j : Nat) t v, Try.f4.params[j]? = some t → args[j]? = some v → Value.okWide Try.prog W .any base t v := hval0
  have hW' := hW
  obtain ⟨p, q, hA0, hV, rfl, hfz, hnd⟩ := hW
  have hA : DataW.TrodAll enc Try.prog W 0 (fun _ => true) true Try.f4.params.toList args.toList ds p := hA0
  rw [Try.params4] at hA hval
  obtain ⟨v0, vs0, d0, ds0, p0, q0, hargs, rfl, rfl, h0, r0⟩ := trodAll_cons hA
  obtain ⟨rfl, rfl, rfl⟩ := trodAll_nil r0
  obtain rfl : args = #[v0] := by cases args; simp_all
  obtain ⟨rfl, rfl⟩ := trodVars_none hV
  have k0 := h0
  have lt0 : ∀ x ∈ p0, x.block < W.heap.size := by obtain ⟨m, hm⟩ := k0; exact DataW.trod_lt m _ _ _ hm
  clear hA0 hval0
  refine (walk W v0 (hval 0 _ v0 rfl rfl) h0).mono fun e W' ⟨he, bel⟩ => ?_
  subst he
  exact ⟨_, rfl, _, _, _, [], _, [], hW', trodAll_mk1 (shut_bool Try.underlying4 _), (trodAll_cons_mk (Below.trod laidOut (by kernel_rfl) (of_decide_eq_true (by kernel_rfl)) k0 bel lt0) trodAll_mk0), rfl, bel.frame _, fun h => by cases h⟩

theorem over : Rows.fnExactStitchesTextRow.holds Try.pinned (OpenSpec.ofChange Rows.fnExactStitchesTextSpec) :=
  OpenClaim.holds_of_wide 4 Try.f4 rfl rfl rfl rfl rfl rfl rfl ⟨rfl, rfl, rfl, rfl, rfl⟩ rfl rfl rfl rfl rfl (by kernel_rfl) Try.func4 (by kernel_rfl)
    (of_decide_eq_true (by kernel_rfl)) (by unfold Func.isWrapper; first | (rw [if_pos (by decide +kernel)]; kernel_rfl) | (rw [if_neg (by decide +kernel)]; exact ⟨rfl, rfl⟩))
    (fun os started H enc _ => lifted os started H enc)

theorem proved : Rows.FnExactStitchesTextSaid := over
end FnExactStitchesText

end Go.Proofs.Ytmgicdcpeblpnaa
