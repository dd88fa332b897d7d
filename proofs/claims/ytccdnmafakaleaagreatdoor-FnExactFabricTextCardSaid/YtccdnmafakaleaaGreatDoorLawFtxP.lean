/-
  The program's FabricText returns what the reference's returns, for every list of events.
-/
import Derived.Test.YtccdnmafakaleaaGreatDoorPk9
import Derived.Test.YtccdnmafakaleaaGreatDoorSame
import Derived.Test.YtccdnmafakaleaaGreatDoorMark
import Derived.Test.YtccdnmafakaleaaGreatDoorPk2
import Derived.Test.YtccdnmafakaleaaGreatDoorKept
import Derived.Test.YtccdnmafakaleaaGreatDoorCards
import Derived.Test.YtccdnmafakaleaaGreatDoorTie
import Derived.ProofKit
import Derived.LaidMore
import Derived.OpenShut
import Derived.Stop.Joined
import Derived.Lib.LaidTab
import Derived.SevenTiedAt
import Derived.Deep.RegionHeld3
namespace Go.Proofs.YtccdnmafakaleaaGreatDoor
set_option linter.unusedVariables false
set_option linter.unusedSimpArgs false
open Go.ChangeShapes Go.WideShapes Go.ChangeAt Go.RowKit

attribute [local go_sem] strV
set_option maxHeartbeats 8000000 in
set_option maxRecDepth 100000 in
theorem FnExactFabricText.core (v0 : Value) (l : List Ev) (W : World) (hl0 : RdE W W.heap.size v0 l) (ht : Lib.TabIs Tryz.prog W "internal/strconv.uint64pow10" .u64 Lib.pow10Tab) :
    Calls Tryz.prog 3 #[v0] W fun e W' => e = .returned (.bool true) ∧ Below W.heap.size W W' := by
  have HTI := Lib.hid (Lib.tabBelow_of_tabIs ht)
  clear ht
  have H0 := Lib.hid hl0
  clear hl0
  obtain ⟨z0, e0⟩ : ∃ z, szOf 1048576 l.length = z := ⟨_, rfl⟩
  have E0 := Lib.hid e0
  clear e0
  by_cases p0 : 0 ≤ z0
  case neg =>
    have q0 : z0 < 0 := by omega
    clear p0
    go_enter Tryz.func3, Tryz.ntmps3
    go_wp2_with fail
    refine (szEventS_any _ l 1048576 _ _ H0.out (by omega) (by omega)).mono ?_
    rintro e w' ⟨rfl, rfl⟩
    rw [E0.out]
    go_wp2
    go_ret
    exact ⟨rfl, (Below.refl _ _)⟩
  obtain ⟨f0, g0⟩ := szOf_pos' E0.out p0
  have s0 := Lib.hid (show (l).length ≤ 1048576 by omega)
  have u0 : z0 ≤ 1048576 := by omega
  clear f0 g0
  go_enter Tryz.func3, Tryz.ntmps3
  go_wp2_with fail
  refine (szEventS_any _ l 1048576 _ _ H0.out (by omega) (by omega)).mono ?_
  rintro e w' ⟨rfl, rfl⟩
  rw [E0.out]
  go_wp2_with fail
  refine (toEventS_any _ l _ H0.out s0.out).mono ?_
  rintro e w1 ⟨va0, rfl, ho, hb⟩
  have S1 := Lib.hid hb.size
  have B1 := Lib.hid (hb)
  have Oa0 := Lib.hid ho
  clear ho
  clear hb
  go_wp2_with fail
  refine (specFabric_any _ l _ ((RdS.of_own Ev.len Oa0.out).more (by have := S1.out; omega))).mono ?_
  rintro e w2 ⟨rfl, hb⟩
  have Oa0' := Lib.hid (Oa0.out.below (hb.mono (by have := S1.out; omega)))
  clear Oa0
  have Oa0 := Oa0'
  clear Oa0'
  have S2 := Lib.hid hb.size
  have B2 := Lib.hid (B1.out.trans (hb.mono B1.out.size))
  clear hb B1
  clear Oa0
  go_wp2_with fail
  refine (toEventS_any _ l _ ((H0.out.below B2.out).more B2.out.size) s0.out).mono ?_
  rintro e w3 ⟨vx0, rfl, ho, hb⟩
  have S3 := Lib.hid hb.size
  have B3 := Lib.hid (B2.out.trans (hb.mono B2.out.size))
  have Ox0 := Lib.hid ho
  clear ho
  clear hb B2
  go_wp2_with fail
  refine (implFabric_any _ l _ ((RdS.of_own Ev.len Ox0.out).more (by have := S1.out; have := S2.out; have := S3.out; omega)) (Lib.tabBelow_of_tabIs ((HTI.out.on B3.out).here))).mono ?_
  rintro e w4 ⟨rfl, hb⟩
  have Ox0' := Lib.hid (Ox0.out.below (hb.mono (by have := S1.out; have := S2.out; have := S3.out; omega)))
  clear Ox0
  have Ox0 := Ox0'
  clear Ox0'
  have S4 := Lib.hid hb.size
  have B4 := Lib.hid (B3.out.trans (hb.mono B3.out.size))
  clear hb B3
  go_wp2_with fail
  refine (toEventS_any _ l _ ((H0.out.below B4.out).more B4.out.size) s0.out).mono ?_
  rintro e w5 ⟨vy0, rfl, ho, hb⟩
  have Ox0' := Lib.hid (Ox0.out.below (hb.mono (by have := S1.out; have := S2.out; have := S3.out; have := S4.out; omega)))
  clear Ox0
  have Ox0 := Ox0'
  clear Ox0'
  have S5 := Lib.hid hb.size
  have B5 := Lib.hid (B4.out.trans (hb.mono B4.out.size))
  have Oy0 := Lib.hid ho
  clear ho
  clear hb B4
  go_wp2_with fail
  refine (eqEventS_any _ _ (l) (l) _ _ ((RdS.of_own Ev.len Ox0.out).more (by have := S1.out; have := S2.out; have := S3.out; have := S4.out; have := S5.out; omega)) ((RdS.of_own Ev.len Oy0.out).more (by have := S1.out; have := S2.out; have := S3.out; have := S4.out; have := S5.out; omega)) (Nat.le_refl _)).mono ?_
  rintro e w6 ⟨rfl, hb⟩
  have Ox0' := Lib.hid (Ox0.out.below (hb.mono (by have := S1.out; have := S2.out; have := S3.out; have := S4.out; have := S5.out; omega)))
  have Oy0' := Lib.hid (Oy0.out.below (hb.mono (by have := S1.out; have := S2.out; have := S3.out; have := S4.out; have := S5.out; omega)))
  clear Ox0 Oy0
  have Ox0 := Ox0'
  have Oy0 := Oy0'
  clear Ox0' Oy0'
  have S6 := Lib.hid hb.size
  have B6 := Lib.hid (B5.out.trans (hb.mono B5.out.size))
  clear hb B5
  clear Oy0
  go_wp2
  go_ret
  exact ⟨rfl, B6.out⟩

namespace FnExactFabricText
theorem own : ownKnob Tryz.prog.godebug = none := by kernel_rfl
theorem laidOut : laidOutB Tryz.prog = true := by kernel_rfl
def laidL : List (String × DataW Unit) := [("math/bits.deBruijn32tab", Rows.laid_math_bits_deBruijn32tab), ("math/bits.deBruijn64tab", Rows.laid_math_bits_deBruijn64tab), ("internal/strconv.uint64pow10", Rows.laid_internal_strconv_uint64pow10)]
theorem tail' {P : Program} {x : String × DataW Unit} {r : List (String × DataW Unit)} {w : World} (h : laidMet P (x :: r) w) : laidMet P r w := by
  obtain ⟨ps, hv, hnd, hrows⟩ := h
  obtain ⟨n, d⟩ := x
  obtain ⟨g, t, cs, fuel, p, q, _, _, _, _, hq, rfl⟩ := hv
  exact ⟨q, hq, List.Nodup.sublist (List.sublist_append_right _ _) hnd, fun b off hm => hrows b off (List.mem_append_right _ hm)⟩
theorem of_laid {W : World} (h : laidMetH Tryz.prog laidL W) : Lib.TabIs Tryz.prog W "internal/strconv.uint64pow10" .u64 Lib.pow10Tab := by
  rw [MakeChecks.laidMetH_plain _ _ _ (by kernel_rfl)] at h
  have h2 : laidMet Tryz.prog [("internal/strconv.uint64pow10", Lib.tabData .u64 Lib.pow10Tab)] W := tail' (tail' h)
  exact Lib.tabIs_of_head (g := 0) (by kernel_rfl) (by kernel_rfl) Tryz.underlying108 Tryz.underlying98 (by kernel_rfl) (by kernel_rfl) h2
theorem door_met (os : Os) (args : Array Value) : laidMetH Tryz.prog laidL ((World.doorLaid Tryz.prog 400 os).forCall (fun _ _ => 0) ⟨#[], args, []⟩).memory :=
  laidMetH_of_parts3 (fuel := 8) (laidMet_of_run' 8 (by kernel_rfl) (by kernel_rfl)) (by kernel_rfl) (by kernel_rfl)

set_option maxRecDepth 100000 in
theorem lifted (os : Os) (started : os.Started) (H : Type) (enc : TypeId × Value → H) :
    ReturnsInHanded {} Tryz.checked os 3 .any (fun w args => (Rows.fnExactFabricTextSpec.pre enc Tryz.prog Tryz.f3 [] false w args ∧ laidMetH Tryz.prog laidL w) ∧ sizedMet enc Tryz.prog Tryz.f3 (OpenSpec.ofChange Rows.fnExactFabricTextSpec) false w args)
      (Rows.fnExactFabricTextSpec.post enc Tryz.prog Tryz.f3 false true false false) := by
  refine returnsInHanded_of_change_and (C := Tryz.checked) (X := fun w _ => laidMetH Tryz.prog laidL w) (fun _ _ _ hh h => h.of_heap hh) own started (by kernel_rfl) Tryz.func3
    (ChangeSpec.witness_shaped (enc := enc) (C := Tryz.checked) (os := os) (X := fun w _ => laidMetH Tryz.prog laidL w) false (World.doorLaid Tryz.prog 400 os) #[.slice none 0 0] 8 rfl (World.shaped_of_RefB (by kernel_rfl) (by kernel_rfl)) (by kernel_rfl) (by kernel_rfl) (by kernel_rfl) (door_met os _)) ?_
  intro W base args ds gs before hval0 hW _ _ hL _
  have hval : ∀ (j : Nat) t v, Tryz.f3.params[j]? = some t → args[j]? = some v → Value.okWide Tryz.prog W .any base t v := hval0
  have hW' := hW
  obtain ⟨p, q, hA0, hV, rfl, hfz, hnd⟩ := hW
  have hA : DataW.TrodAll enc Tryz.prog W 0 (fun _ => true) true Tryz.f3.params.toList args.toList ds p := hA0
  rw [Tryz.params3] at hA hval
  obtain ⟨v0, vs0, d0, ds0, p0, q0, hargs, rfl, rfl, h0, r0⟩ := trodAll_cons hA
  obtain ⟨rfl, rfl, rfl⟩ := trodAll_nil r0
  obtain rfl : args = #[v0] := by cases args; simp_all
  obtain ⟨rfl, rfl⟩ := trodVars_none hV
  have k0 := h0
  have lt0 : ∀ x ∈ p0, x.block < W.heap.size := by obtain ⟨m, hm⟩ := k0; exact DataW.trod_lt m _ _ _ hm
  clear hA0 hval0
  obtain ⟨l, hl, _⟩ := open_evs (hval 0 _ v0 rfl rfl) h0
  refine (FnExactFabricText.core v0 l W hl (of_laid hL)).mono fun e W' ⟨he, bel⟩ => ?_
  subst he
  exact ⟨_, rfl, _, _, _, [], _, [], hW', trodAll_mk1 (shut_bool Tryz.underlying4 _), (trodAll_cons_mk (Below.trod laidOut (by kernel_rfl) (of_decide_eq_true (by kernel_rfl)) k0 bel lt0) trodAll_mk0), rfl, bel.frame _, fun h => by cases h⟩

theorem row_holds : Rows.FnExactFabricTextSaid :=
  OpenClaim.holds_of_wide 3 Tryz.f3 rfl rfl rfl rfl rfl rfl rfl ⟨rfl, rfl, rfl, rfl, rfl⟩ rfl rfl rfl rfl rfl (by kernel_rfl) Tryz.func3 (by kernel_rfl)
    (of_decide_eq_true (by kernel_rfl)) (by unfold Func.isWrapper; first | (rw [if_pos (by decide +kernel)]; kernel_rfl) | (rw [if_neg (by decide +kernel)]; exact ⟨rfl, rfl⟩))
    (fun os started H enc _ => lifted os started H enc)

theorem proved : Rows.FnExactFabricTextCardSaid :=
  Claim7.holds_tied_plain_at .later [] [.data, .data, .data] true (true, "725b20d73e830cc50275586d6aa2c44d6b2f4d63ce35c95cd68d0d9a3ee90bee") false
    row_holds (fun _ h => by cases h) (by kernel_rfl) (fun _ h => by cases h) fnExactFabricText_row_tie rfl ⟨rfl, rfl⟩ (by kernel_rfl) rfl
    (fun f fn hf hfn => by
      obtain rfl : f = 3 := Option.some.inj ((show Tryz.prog.funcNamed "loop.example/g00856/laws.FnExactFabricText" = some 3 by kernel_rfl).symm.trans hf) |>.symm
      obtain rfl : fn = Tryz.f3 := (Option.some.inj (Tryz.func3.symm.trans hfn)).symm
      exact ⟨by kernel_rfl, fun j t ht => by
        rw [Tryz.params3] at ht
        have h3 : t = 22 := by
          rcases j with _ | j
          · simpa using ht.symm
          · simp at ht
        subst h3
        exact (show Tryz.prog.wantsStandIn 22 = false by kernel_rfl)⟩)
    (by kernel_rfl)
end FnExactFabricText

end Go.Proofs.YtccdnmafakaleaaGreatDoor
