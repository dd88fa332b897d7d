/-
  The program's SameBlocks returns what the reference's returns, for every two lists of blocks; no condition.
-/
import Derived.Test.YtjhhbdehgklneaaBlkT
import Derived.Test.YtjhhbdehgklneaaSame
import Derived.Test.YtjhhbdehgklneaaMark
import Derived.Test.YtjhhbdehgklneaaOpenBr
import Derived.Test.YtjhhbdehgklneaaOpenEv
import Derived.Test.YtjhhbdehgklneaaKept
import Derived.Deep.RegionHeld3
namespace Go.Proofs.Ytjhhbdehgklneaa
set_option linter.unusedVariables false
set_option linter.unusedSimpArgs false
open Go.ChangeShapes Go.WideShapes Go.ChangeAt Go.RowKit
open Go.ChangeMaps (open_string shut_string)

set_option maxHeartbeats 8000000 in
set_option maxRecDepth 100000 in
theorem FnExactSameBlocks.core (v0 : Value) (l : List Bk) (v1 : Value) (m : List Bk) (W : World) (hl0 : RdBks W W.heap.size v0 l) (hl1 : RdBks W W.heap.size v1 m) :
    Calls Try.prog 4 #[v0, v1] W fun e W' => e = .returned (.bool true) ∧ Below W.heap.size W W' := by
  have H0 := Lib.hid hl0
  clear hl0
  have H1 := Lib.hid hl1
  clear hl1
  obtain ⟨z0, e0⟩ : ∃ z, szBks 1048576 l = z := ⟨_, rfl⟩
  have E0 := Lib.hid e0
  clear e0
  by_cases p0 : 0 ≤ z0
  case neg =>
    have q0 : z0 < 0 := by omega
    clear p0
    go_enter Try.func4, Try.ntmps4
    go_wp2_with fail
    refine (szBlockS_any _ l 1048576 _ H0.out (by omega) (by omega)).mono ?_
    rintro e w1 ⟨rfl, hb⟩
    rw [E0.out]
    have S1 := Lib.hid hb.size
    have B1 := Lib.hid (hb)
    clear hb
    go_wp2
    go_ret
    exact ⟨rfl, B1.out⟩
  obtain ⟨f0, u0⟩ := szBks_fit E0.out p0
  have s0 := Lib.hid f0
  clear f0
  obtain ⟨z1, e1⟩ : ∃ z, szBks z0 m = z := ⟨_, rfl⟩
  have E1 := Lib.hid e1
  clear e1
  by_cases p1 : 0 ≤ z1
  case neg =>
    have q1 : z1 < 0 := by omega
    clear p1
    go_enter Try.func4, Try.ntmps4
    go_wp2_with fail
    refine (szBlockS_any _ l 1048576 _ H0.out (by omega) (by omega)).mono ?_
    rintro e w1 ⟨rfl, hb⟩
    rw [E0.out]
    have S1 := Lib.hid hb.size
    have B1 := Lib.hid (hb)
    clear hb
    go_wp2_with fail
    refine (szBlockS_any _ m z0 _ ((H1.out.below B1.out).more B1.out.size) (by omega) (by omega)).mono ?_
    rintro e w2 ⟨rfl, hb⟩
    rw [E1.out]
    have S2 := Lib.hid hb.size
    have B2 := Lib.hid (B1.out.trans (hb.mono B1.out.size))
    clear hb B1
    go_wp2
    go_ret
    exact ⟨rfl, B2.out⟩
  obtain ⟨f1, u1⟩ := szBks_fit E1.out p1
  have s1 := Lib.hid f1
  clear f1
  go_enter Try.func4, Try.ntmps4
  go_wp2_with fail
  refine (szBlockS_any _ l 1048576 _ H0.out (by omega) (by omega)).mono ?_
  rintro e w1 ⟨rfl, hb⟩
  rw [E0.out]
  have S1 := Lib.hid hb.size
  have B1 := Lib.hid (hb)
  clear hb
  go_wp2_with fail
  refine (szBlockS_any _ m z0 _ ((H1.out.below B1.out).more B1.out.size) (by omega) (by omega)).mono ?_
  rintro e w2 ⟨rfl, hb⟩
  rw [E1.out]
  have S2 := Lib.hid hb.size
  have B2 := Lib.hid (B1.out.trans (hb.mono B1.out.size))
  clear hb B1
  go_wp2_with fail
  refine (toBlockS_any _ l _ ((H0.out.below B2.out).more B2.out.size) s0.out).mono ?_
  rintro e w3 ⟨va0, rfl, ho, hb⟩
  have S3 := Lib.hid hb.size
  have B3 := Lib.hid (B2.out.trans (hb.mono B2.out.size))
  have Oa0 := Lib.hid ho
  clear ho
  clear hb B2
  go_wp2_with fail
  refine (toBlockS_any _ m _ ((H1.out.below B3.out).more B3.out.size) s1.out).mono ?_
  rintro e w4 ⟨va1, rfl, ho, hb⟩
  have Oa0' := Lib.hid (Oa0.out.below (hb.mono (by have := S1.out; have := S2.out; have := S3.out; omega)))
  clear Oa0
  have Oa0 := Oa0'
  clear Oa0'
  have S4 := Lib.hid hb.size
  have B4 := Lib.hid (B3.out.trans (hb.mono B3.out.size))
  have Oa1 := Lib.hid ho
  clear ho
  clear hb B3
  go_wp2_with fail
  refine (specSameBlocks_any _ _ l m _ ((RdBks.of_own Oa0.out).more (by have := S1.out; have := S2.out; have := S3.out; have := S4.out; omega)) ((RdBks.of_own Oa1.out).more (by have := S1.out; have := S2.out; have := S3.out; have := S4.out; omega))).mono ?_
  rintro e w5 ⟨rfl, hb⟩
  have Oa0' := Lib.hid (Oa0.out.below (hb.mono (by have := S1.out; have := S2.out; have := S3.out; have := S4.out; omega)))
  have Oa1' := Lib.hid (Oa1.out.below (hb.mono (by have := S1.out; have := S2.out; have := S3.out; have := S4.out; omega)))
  clear Oa0 Oa1
  have Oa0 := Oa0'
  have Oa1 := Oa1'
  clear Oa0' Oa1'
  have S5 := Lib.hid hb.size
  have B5 := Lib.hid (B4.out.trans (hb.mono B4.out.size))
  clear hb B4
  clear Oa0
  clear Oa1
  go_wp2_with fail
  refine (toBlockS_any _ l _ ((H0.out.below B5.out).more B5.out.size) s0.out).mono ?_
  rintro e w6 ⟨vx0, rfl, ho, hb⟩
  have S6 := Lib.hid hb.size
  have B6 := Lib.hid (B5.out.trans (hb.mono B5.out.size))
  have Ox0 := Lib.hid ho
  clear ho
  clear hb B5
  go_wp2_with fail
  refine (toBlockS_any _ m _ ((H1.out.below B6.out).more B6.out.size) s1.out).mono ?_
  rintro e w7 ⟨vx1, rfl, ho, hb⟩
  have Ox0' := Lib.hid (Ox0.out.below (hb.mono (by have := S1.out; have := S2.out; have := S3.out; have := S4.out; have := S5.out; have := S6.out; omega)))
  clear Ox0
  have Ox0 := Ox0'
  clear Ox0'
  have S7 := Lib.hid hb.size
  have B7 := Lib.hid (B6.out.trans (hb.mono B6.out.size))
  have Ox1 := Lib.hid ho
  clear ho
  clear hb B6
  go_wp2_with fail
  refine (implSameBlocks_any _ _ l m _ ((RdBks.of_own Ox0.out).more (by have := S1.out; have := S2.out; have := S3.out; have := S4.out; have := S5.out; have := S6.out; have := S7.out; omega)) ((RdBks.of_own Ox1.out).more (by have := S1.out; have := S2.out; have := S3.out; have := S4.out; have := S5.out; have := S6.out; have := S7.out; omega))).mono ?_
  rintro e w8 ⟨rfl, hb⟩
  have Ox0' := Lib.hid (Ox0.out.below (hb.mono (by have := S1.out; have := S2.out; have := S3.out; have := S4.out; have := S5.out; have := S6.out; have := S7.out; omega)))
  have Ox1' := Lib.hid (Ox1.out.below (hb.mono (by have := S1.out; have := S2.out; have := S3.out; have := S4.out; have := S5.out; have := S6.out; have := S7.out; omega)))
  clear Ox0 Ox1
  have Ox0 := Ox0'
  have Ox1 := Ox1'
  clear Ox0' Ox1'
  have S8 := Lib.hid hb.size
  have B8 := Lib.hid (B7.out.trans (hb.mono B7.out.size))
  clear hb B7
  go_wp2_with fail
  refine (toBlockS_any _ l _ ((H0.out.below B8.out).more B8.out.size) s0.out).mono ?_
  rintro e w9 ⟨vy0, rfl, ho, hb⟩
  have Ox0' := Lib.hid (Ox0.out.below (hb.mono (by have := S1.out; have := S2.out; have := S3.out; have := S4.out; have := S5.out; have := S6.out; have := S7.out; have := S8.out; omega)))
  have Ox1' := Lib.hid (Ox1.out.below (hb.mono (by have := S1.out; have := S2.out; have := S3.out; have := S4.out; have := S5.out; have := S6.out; have := S7.out; have := S8.out; omega)))
  clear Ox0 Ox1
  have Ox0 := Ox0'
  have Ox1 := Ox1'
  clear Ox0' Ox1'
  have S9 := Lib.hid hb.size
  have B9 := Lib.hid (B8.out.trans (hb.mono B8.out.size))
  have Oy0 := Lib.hid ho
  clear ho
  clear hb B8
  go_wp2_with fail
  refine (eqBlockS_same _ _ (l) _ ((RdBks.of_own Ox0.out).more (by have := S1.out; have := S2.out; have := S3.out; have := S4.out; have := S5.out; have := S6.out; have := S7.out; have := S8.out; have := S9.out; omega)) ((RdBks.of_own Oy0.out).more (by have := S1.out; have := S2.out; have := S3.out; have := S4.out; have := S5.out; have := S6.out; have := S7.out; have := S8.out; have := S9.out; omega))).mono ?_
  rintro e w10 ⟨rfl, hb⟩
  have Ox0' := Lib.hid (Ox0.out.below (hb.mono (by have := S1.out; have := S2.out; have := S3.out; have := S4.out; have := S5.out; have := S6.out; have := S7.out; have := S8.out; have := S9.out; omega)))
  have Ox1' := Lib.hid (Ox1.out.below (hb.mono (by have := S1.out; have := S2.out; have := S3.out; have := S4.out; have := S5.out; have := S6.out; have := S7.out; have := S8.out; have := S9.out; omega)))
  have Oy0' := Lib.hid (Oy0.out.below (hb.mono (by have := S1.out; have := S2.out; have := S3.out; have := S4.out; have := S5.out; have := S6.out; have := S7.out; have := S8.out; have := S9.out; omega)))
  clear Ox0 Ox1 Oy0
  have Ox0 := Ox0'
  have Ox1 := Ox1'
  have Oy0 := Oy0'
  clear Ox0' Ox1' Oy0'
  have S10 := Lib.hid hb.size
  have B10 := Lib.hid (B9.out.trans (hb.mono B9.out.size))
  clear hb B9
  clear Oy0
  go_wp2_with fail
  refine (toBlockS_any _ m _ ((H1.out.below B10.out).more B10.out.size) s1.out).mono ?_
  rintro e w11 ⟨vy1, rfl, ho, hb⟩
  have Ox0' := Lib.hid (Ox0.out.below (hb.mono (by have := S1.out; have := S2.out; have := S3.out; have := S4.out; have := S5.out; have := S6.out; have := S7.out; have := S8.out; have := S9.out; have := S10.out; omega)))
  have Ox1' := Lib.hid (Ox1.out.below (hb.mono (by have := S1.out; have := S2.out; have := S3.out; have := S4.out; have := S5.out; have := S6.out; have := S7.out; have := S8.out; have := S9.out; have := S10.out; omega)))
  clear Ox0 Ox1
  have Ox0 := Ox0'
  have Ox1 := Ox1'
  clear Ox0' Ox1'
  have S11 := Lib.hid hb.size
  have B11 := Lib.hid (B10.out.trans (hb.mono B10.out.size))
  have Oy1 := Lib.hid ho
  clear ho
  clear hb B10
  go_wp2_with fail
  refine (eqBlockS_same _ _ (m) _ ((RdBks.of_own Ox1.out).more (by have := S1.out; have := S2.out; have := S3.out; have := S4.out; have := S5.out; have := S6.out; have := S7.out; have := S8.out; have := S9.out; have := S10.out; have := S11.out; omega)) ((RdBks.of_own Oy1.out).more (by have := S1.out; have := S2.out; have := S3.out; have := S4.out; have := S5.out; have := S6.out; have := S7.out; have := S8.out; have := S9.out; have := S10.out; have := S11.out; omega))).mono ?_
  rintro e w12 ⟨rfl, hb⟩
  have Ox0' := Lib.hid (Ox0.out.below (hb.mono (by have := S1.out; have := S2.out; have := S3.out; have := S4.out; have := S5.out; have := S6.out; have := S7.out; have := S8.out; have := S9.out; have := S10.out; have := S11.out; omega)))
  have Ox1' := Lib.hid (Ox1.out.below (hb.mono (by have := S1.out; have := S2.out; have := S3.out; have := S4.out; have := S5.out; have := S6.out; have := S7.out; have := S8.out; have := S9.out; have := S10.out; have := S11.out; omega)))
  have Oy1' := Lib.hid (Oy1.out.below (hb.mono (by have := S1.out; have := S2.out; have := S3.out; have := S4.out; have := S5.out; have := S6.out; have := S7.out; have := S8.out; have := S9.out; have := S10.out; have := S11.out; omega)))
  clear Ox0 Ox1 Oy1
  have Ox0 := Ox0'
  have Ox1 := Ox1'
  have Oy1 := Oy1'
  clear Ox0' Ox1' Oy1'
  have S12 := Lib.hid hb.size
  have B12 := Lib.hid (B11.out.trans (hb.mono B11.out.size))
  clear hb B11
  clear Oy1
  go_wp2
  go_ret
  exact ⟨rfl, B12.out⟩

set_option maxRecDepth 100000 in
theorem FnExactSameBlocks.walk {H : Type} {enc : TypeId × Value → H} {base : Nat} {d0 : DataW H} {p0 : List MemPlace} {d1 : DataW H} {p1 : List MemPlace} (W : World) (v0 : Value) (v1 : Value) (o0 : Value.okWide Try.prog W .any base 36 v0) (o1 : Value.okWide Try.prog W .any base 36 v1)
    (h0 : DataW.Trod enc Try.prog W 0 (fun _ => true) true 36 v0 d0 p0) (h1 : DataW.Trod enc Try.prog W 0 (fun _ => true) true 36 v1 d1 p1) : Calls Try.prog 4 #[v0, v1] W fun e W' => e = .returned (.bool true) ∧ Below W.heap.size W W' := by
  obtain ⟨l, k0, _⟩ := open_blocks o0 h0
  obtain ⟨m, k1, _⟩ := open_blocks o1 h1
  exact FnExactSameBlocks.core v0 l v1 m W k0 k1

namespace FnExactSameBlocks
theorem own : ownKnob Try.prog.godebug = none := by kernel_rfl
theorem laidOut : laidOutB Try.prog = true := by kernel_rfl

set_option maxRecDepth 100000 in
theorem lifted (os : Os) (started : os.Started) (H : Type) (enc : TypeId × Value → H) :
    ReturnsInHanded {} Try.checked os 4 .any (Rows.fnExactSameBlocksSpec.pre6 enc Try.prog Try.f4 Rows.fnExactSameBlocksRow.domain false) (Rows.fnExactSameBlocksSpec.post enc Try.prog Try.f4 false true false false) := by
  refine returnsInHanded_of_change (C := Try.checked) own started (by kernel_rfl) Try.func4
    (ChangeSpec.witness6 (enc := enc) (C := Try.checked) false ⟨#[], #[.slice none 0 0, .slice none 0 0], []⟩ 8 (by kernel_rfl) (by kernel_rfl) (by kernel_rfl) (by kernel_rfl)) ?_
  intro W base args ds gs before hval0 hW hcnd _
  have hval : ∀ (j : Nat) t v, Try.f4.params[j]? = some t → args[j]? = some v → Value.okWide Try.prog W .any base t v := hval0
  have hW' := hW
  obtain ⟨p, q, hA0, hV, rfl, hfz, hnd⟩ := hW
  have hA : DataW.TrodAll enc Try.prog W 0 (fun _ => true) true Try.f4.params.toList args.toList ds p := hA0
  rw [Try.params4] at hA hval
  obtain ⟨v0, vs0, d0, ds0, p0, q0, hargs, rfl, rfl, h0, r0⟩ := trodAll_cons hA
  obtain ⟨v1, vs1, d1, ds1, p1, q1, rfl, rfl, rfl, h1, r1⟩ := trodAll_cons r0
  obtain ⟨rfl, rfl, rfl⟩ := trodAll_nil r1
  obtain rfl : args = #[v0, v1] := by cases args; simp_all
  obtain ⟨rfl, rfl⟩ := trodVars_none hV
  have k0 := h0
  have lt0 : ∀ x ∈ p0, x.block < W.heap.size := by obtain ⟨m, hm⟩ := k0; exact DataW.trod_lt m _ _ _ hm
  have k1 := h1
  have lt1 : ∀ x ∈ p1, x.block < W.heap.size := by obtain ⟨m, hm⟩ := k1; exact DataW.trod_lt m _ _ _ hm
  clear hA0 hval0
  refine (walk W v0 v1 (hval 0 _ v0 rfl rfl) (hval 1 _ v1 rfl rfl) h0 h1).mono fun e W' ⟨he, bel⟩ => ?_
  subst he
  exact ⟨_, rfl, _, _, _, [], _, [], hW', trodAll_mk1 (shut_bool Try.underlying4 _), (trodAll_cons_mk (Below.trod laidOut (by kernel_rfl) (of_decide_eq_true (by kernel_rfl)) k0 bel lt0) (trodAll_cons_mk (Below.trod laidOut (by kernel_rfl) (of_decide_eq_true (by kernel_rfl)) k1 bel lt1) trodAll_mk0)), rfl, bel.frame _, fun h => by cases h⟩

theorem over : Rows.fnExactSameBlocksRow.holds Try.pinned (OpenSpec.ofChange Rows.fnExactSameBlocksSpec) :=
  OpenClaim.holds_of_wide 4 Try.f4 rfl rfl rfl rfl rfl rfl rfl ⟨rfl, rfl, rfl, rfl, rfl⟩ rfl rfl rfl rfl rfl (by kernel_rfl) Try.func4 (by kernel_rfl)
    (of_decide_eq_true (by kernel_rfl)) (by unfold Func.isWrapper; first | (rw [if_pos (by decide +kernel)]; kernel_rfl) | (rw [if_neg (by decide +kernel)]; exact ⟨rfl, rfl⟩))
    (fun os started H enc _ => lifted os started H enc)

theorem proved : Rows.FnExactSameBlocksSaid := over
end FnExactSameBlocks

end Go.Proofs.Ytjhhbdehgklneaa
