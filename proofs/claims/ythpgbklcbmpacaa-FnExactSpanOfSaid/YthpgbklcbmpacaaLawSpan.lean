/-
  The program's SpanOf returns what the reference's returns, for every list of operations and every pass; no condition.
-/
import Derived.Test.YthpgbklcbmpacaaSpan2
import Derived.Test.YthpgbklcbmpacaaSpan3
import Derived.Test.YthpgbklcbmpacaaNest
import Derived.Test.YthpgbklcbmpacaaOpS
import Derived.Test.YthpgbklcbmpacaaPas
import Derived.Test.YthpgbklcbmpacaaMark
import Derived.Test.YthpgbklcbmpacaaKept
import Derived.Deep.RegionHeld3
import Derived.Deep.RegionWith
import Derived.Deep.Cut
namespace Go.Proofs.Ythpgbklcbmpacaa
set_option linter.unusedVariables false
set_option linter.unusedSimpArgs false
open Go.ChangeShapes Go.WideShapes Go.ChangeAt Go.RowKit
open Go.ChangeMaps (open_string shut_string)

set_option maxHeartbeats 8000000 in
set_option maxRecDepth 100000 in
theorem FnExactSpanOf.core (v0 : Value) (l : List Opr) (p : Pas) (W : World) (hl0 : RdO W W.heap.size v0 l) :
    Calls Try.prog 4 #[v0, p.v] W fun e W' => e = .returned (.bool true) ∧ Below W.heap.size W W' := by
  have B0 := Lib.hid (show Below W.heap.size W (W.alloc (.cells #[.int .i64 p.k, .int .i64 p.d, .int .i64 p.c, .int .i64 p.r, .int .i64 p.f, .int .i64 p.n] 35)) from (Below.refl _ _).alloc (Nat.le_refl _) _)
  have HP0 : Hid (CellsAt (W.alloc (.cells #[.int .i64 p.k, .int .i64 p.d, .int .i64 p.c, .int .i64 p.r, .int .i64 p.f, .int .i64 p.n] 35)) W.heap.size 0 p.cells) := fun j u hu => by
    rcases j with _ | _ | _ | _ | _ | _ | j <;> simp at hu <;> subst hu <;> simp [go_sem]
  have S0 := Lib.hid (show W.heap.size < (W.alloc (.cells #[.int .i64 p.k, .int .i64 p.d, .int .i64 p.c, .int .i64 p.r, .int .i64 p.f, .int .i64 p.n] 35)).heap.size by simp)
  have H0 := Lib.hid hl0
  have HZ := Lib.hid (szOpS_any _ l 1048576 _ _ ((H0.out.below B0.out).more B0.out.size) (by omega) (by omega))
  obtain ⟨A, N, c, rfl, hbig, hln, gl⟩ := hl0
  clear hln gl hbig
  obtain ⟨z0, e0⟩ : ∃ z, szOf 1048576 l.length = z := ⟨_, rfl⟩
  have E0 := Lib.hid e0
  rw [e0] at HZ
  clear e0
  by_cases p0 : 0 ≤ z0
  case neg =>
    have q0 : z0 < 0 := by omega
    clear p0
    go_enter Try.func4, Try.ntmps4
    go_wp2_with fail
    refine HZ.out.mono ?_
    rintro e w' ⟨rfl, rfl⟩
    go_wp2
    go_ret
    exact ⟨rfl, B0.out⟩
  obtain ⟨f0, g0⟩ := szOf_pos' E0.out p0
  have s0 := Lib.hid (show (l).length ≤ 1048576 by omega)
  have u0 : z0 ≤ 1048576 := by omega
  have HT := Lib.hid (fun (w1 : World) (h : Below W.heap.size W w1) => toOpS_any _ l w1 ((H0.out.below h).more h.size) s0.out)
  clear f0 g0
  go_enter Try.func4, Try.ntmps4
  go_wp2_with fail
  refine HZ.out.mono ?_
  rintro e w' ⟨rfl, rfl⟩
  obtain ⟨p0, p1, p2, p3, p4, p5⟩ := HP0.out.six
  go_wp2
  go_region_with ((first | (go_at_call 8; refine (HT.out _ (by first | exact HBp.out | exact B0.out.drew)).mono ?_; rintro e wo ⟨va, rfl, ho, hbo⟩; have HNo := Lib.hid hbo; have HBo : Hid (Below W.heap.size W wo) := Lib.hid (by first | exact HBp.out.trans (hbo.mono HBp.out.size) | exact B0.out.drew.trans (hbo.mono B0.out.drew.size)); have HXo : Hid (Below (W.alloc (.cells #[.int .i64 p.k, .int .i64 p.d, .int .i64 p.c, .int .i64 p.r, .int .i64 p.f, .int .i64 p.n] 35)).heap.size (W.alloc (.cells #[.int .i64 p.k, .int .i64 p.d, .int .i64 p.c, .int .i64 p.r, .int .i64 p.f, .int .i64 p.n] 35)) wo) := Lib.hid (by first | exact HXp.out.trans (hbo.mono HXp.out.size) | exact (Below.refl _ _).drew.trans hbo); have HRo : Hid (RdO wo wo.heap.size va l) := Lib.hid (RdS.of_own Opr.len ho); obtain ⟨Aa, ca, rfl, -⟩ := ho.cells; obtain ⟨q0, q1, q2, q3, q4, q5⟩ := (HP0.out.below HXo.out S0.out).six; clear hbo ho) | (go_at_call 16; refine (toPass_any p _).mono ?_; rintro e wp ⟨rfl, hbp⟩; have HNp := Lib.hid hbp; have HBp : Hid (Below W.heap.size W wp) := Lib.hid (by first | exact HBo.out.trans (hbp.mono HBo.out.size) | exact B0.out.drew.trans (hbp.mono B0.out.drew.size)); have HXp : Hid (Below (W.alloc (.cells #[.int .i64 p.k, .int .i64 p.d, .int .i64 p.c, .int .i64 p.r, .int .i64 p.f, .int .i64 p.n] 35)).heap.size (W.alloc (.cells #[.int .i64 p.k, .int .i64 p.d, .int .i64 p.c, .int .i64 p.r, .int .i64 p.f, .int .i64 p.n] 35)) wp) := Lib.hid (by first | exact HXo.out.trans (hbp.mono HXo.out.size) | exact (Below.refl _ _).drew.trans hbp); clear hbp) | (go_at_call 15; refine (specSpan_any _ l p _ (by first | exact HRo.out | exact (HRo.out.below HNp.out).more HNp.out.size)).mono ?_; rintro e w2 ⟨he, hb2⟩; unfold spnV at he; subst he; have B2 : Hid (Below W.heap.size W w2) := Lib.hid (by first | exact HBp.out.trans (hb2.mono HBp.out.size) | exact HBo.out.trans (hb2.mono HBo.out.size)); have X2 : Hid (Below (W.alloc (.cells #[.int .i64 p.k, .int .i64 p.d, .int .i64 p.c, .int .i64 p.r, .int .i64 p.f, .int .i64 p.n] 35)).heap.size (W.alloc (.cells #[.int .i64 p.k, .int .i64 p.d, .int .i64 p.c, .int .i64 p.r, .int .i64 p.f, .int .i64 p.n] 35)) w2) := Lib.hid (by first | exact HXp.out.trans (hb2.mono HXp.out.size) | exact HXo.out.trans (hb2.mono HXo.out.size)); clear hb2)))
  all_goals
    have P2 := Lib.hid (HP0.out.below X2.out S0.out)
    have S2 : W.heap.size < w2.heap.size := Nat.lt_of_lt_of_le S0.out X2.out.size
    clear p0 p1 p2 p3 p4 p5 q0 q1 q2 q3 q4 q5 HRo HXo HXp HBo HBp HNo HNp
    go_wp2_with fail
    refine (HT.out _ B2.out).mono ?_
    rintro e w3 ⟨vx0, rfl, ho, hb⟩
    have B3 := Lib.hid (B2.out.trans (hb.mono B2.out.size))
    have Ox0 := Lib.hid ho
    obtain ⟨Ax, cx, rfl, -⟩ := ho.cells
    have P3 := Lib.hid (P2.out.below hb S2)
    have S3 : W.heap.size < w3.heap.size := Nat.lt_of_lt_of_le S2 hb.size
    have Z3 := Lib.hid hb.size
    clear ho hb
    obtain ⟨p0, p1, p2, p3, p4, p5⟩ := P3.out.six
    go_wp2_with fail
    refine (toPass_any p _).mono ?_
    rintro e w3a ⟨rfl, hb⟩
    have Z3a := Lib.hid hb.size
    have Ox0' := Lib.hid (Ox0.out.below (hb.mono (Nat.le_refl _)))
    have B3a := Lib.hid (B3.out.trans (hb.mono B3.out.size))
    clear hb p0 p1 p2 p3 p4 p5 Ox0
    go_wp2_with fail
    refine (implSpan_any _ l p _ ((RdS.of_own Opr.len Ox0'.out).more Z3a.out) Ox0'.out.cap).mono ?_
    rintro e w4 ⟨he, hb⟩
    unfold spnV at he
    subst he
    have Ox0 := Lib.hid (Ox0'.out.below (hb.mono Z3a.out))
    have B4 := Lib.hid (B3a.out.trans (hb.mono B3a.out.size))
    have Z4 : Hid (w3.heap.size ≤ w4.heap.size) := Nat.le_trans Z3a.out hb.size
    clear hb Ox0' B3a
    go_wp2_with fail
    refine (HT.out _ B4.out).mono ?_
    rintro e w5 ⟨vy0, rfl, ho, hb⟩
    have Ox0' := Lib.hid (Ox0.out.below (hb.mono Z4.out))
    have B5 := Lib.hid (B4.out.trans (hb.mono B4.out.size))
    have Oy0 := Lib.hid ho
    have Z5 : Hid (w3.heap.size ≤ w5.heap.size) := Nat.le_trans Z4.out hb.size
    clear ho hb Ox0 B4
    go_wp2_with fail
    refine (eqOpS_any _ _ (l) (l) _ _ ((RdS.of_own Opr.len Ox0'.out).more Z5.out) ((RdS.of_own Opr.len Oy0.out).more (Nat.le_refl _)) (Nat.le_refl _)).mono ?_
    rintro e w6 ⟨rfl, hb⟩
    have B6 := Lib.hid (B5.out.trans (hb.mono B5.out.size))
    clear hb
    go_wp2
    go_ret
    exact ⟨rfl, B6.out⟩

section
variable {H : Type} {enc : TypeId × Value → H} {W : World}
set_option maxRecDepth 100000 in
theorem open_pass {base : Nat} {d : DataW H} {p : List MemPlace} {v : Value} (ho : Value.okWide Try.prog W .any base 35 v)
    (h : DataW.Trod enc Try.prog W 0 (fun _ => true) true 35 v d p) : ∃ x : Pas, v = x.v := by
  obtain ⟨cs, rfl, hs, hf⟩ := opens_struct Try.underlying35 (by kernel_rfl) (by kernel_rfl) ho h
  obtain ⟨u0, q0, z0, g0, t0⟩ := hf 0 _ rfl
  obtain ⟨u1, q1, z1, g1, t1⟩ := hf 1 _ rfl
  obtain ⟨u2, q2, z2, g2, t2⟩ := hf 2 _ rfl
  obtain ⟨u3, q3, z3, g3, t3⟩ := hf 3 _ rfl
  obtain ⟨u4, q4, z4, g4, t4⟩ := hf 4 _ rfl
  obtain ⟨u5, q5, z5, g5, t5⟩ := hf 5 _ rfl
  obtain ⟨x0, rfl, _⟩ := opens_int (enc := enc) (W := W) (P := Try.prog) Try.underlying2 _ _ _ t0
  obtain ⟨x1, rfl, _⟩ := opens_int (enc := enc) (W := W) (P := Try.prog) Try.underlying2 _ _ _ t1
  obtain ⟨x2, rfl, _⟩ := opens_int (enc := enc) (W := W) (P := Try.prog) Try.underlying2 _ _ _ t2
  obtain ⟨x3, rfl, _⟩ := opens_int (enc := enc) (W := W) (P := Try.prog) Try.underlying2 _ _ _ t3
  obtain ⟨x4, rfl, _⟩ := opens_int (enc := enc) (W := W) (P := Try.prog) Try.underlying2 _ _ _ t4
  obtain ⟨x5, rfl, _⟩ := opens_int (enc := enc) (W := W) (P := Try.prog) Try.underlying2 _ _ _ t5
  refine ⟨⟨x0, x1, x2, x3, x4, x5⟩, ?_⟩
  show Value.agg cs = _
  congr 1
  apply Array.ext'
  obtain ⟨cl⟩ := cs
  simp at hs g0 g1 g2 g3 g4 g5
  match cl, hs with
  | [a, b, c, d, e, f], _ =>
    simp at g0 g1 g2 g3 g4 g5
    rw [g0, g1, g2, g3, g4, g5]
end

set_option maxRecDepth 100000 in
theorem FnExactSpanOf.walk {H : Type} {enc : TypeId × Value → H} {base : Nat} {d0 : DataW H} {p0 : List MemPlace} {d1 : DataW H} {p1 : List MemPlace} (W : World) (v0 : Value) (v1 : Value) (o0 : Value.okWide Try.prog W .any base 22 v0) (o1 : Value.okWide Try.prog W .any base 35 v1)
    (h0 : DataW.Trod enc Try.prog W 0 (fun _ => true) true 22 v0 d0 p0) (h1 : DataW.Trod enc Try.prog W 0 (fun _ => true) true 35 v1 d1 p1) : Calls Try.prog 4 #[v0, v1] W fun e W' => e = .returned (.bool true) ∧ Below W.heap.size W W' := by
  obtain ⟨l, k0, _⟩ := open_ops o0 h0
  obtain ⟨p, rfl⟩ := open_pass o1 h1
  exact FnExactSpanOf.core v0 l p W k0

namespace FnExactSpanOf
theorem own : ownKnob Try.prog.godebug = none := by kernel_rfl
theorem laidOut : laidOutB Try.prog = true := by kernel_rfl

set_option maxRecDepth 100000 in
theorem lifted (os : Os) (started : os.Started) (H : Type) (enc : TypeId × Value → H) :
    ReturnsInHanded {} Try.checked os 4 .any (Rows.fnExactSpanOfSpec.pre6 enc Try.prog Try.f4 Rows.fnExactSpanOfRow.domain false) (Rows.fnExactSpanOfSpec.post enc Try.prog Try.f4 false true false false) := by
  refine returnsInHanded_of_change (C := Try.checked) own started (by kernel_rfl) Try.func4
    (ChangeSpec.witness6 (enc := enc) (C := Try.checked) false ⟨#[], #[.slice none 0 0, .agg #[.int .i64 0, .int .i64 0, .int .i64 0, .int .i64 0, .int .i64 0, .int .i64 0]], []⟩ 8 (by kernel_rfl) (by kernel_rfl) (by kernel_rfl) (by kernel_rfl)) ?_
  intro W base args ds gs before hval0 hW hcnd _
  have hval : ∀ (j : Nat) t v, Try.f4.params[j]? = some t → args[j]? = some v → Value.okWide Try.prog W .any base t v := hval0
  have hW' := hW
  obtain ⟨p, q, hA0, hV, rfl, hfz, hnd⟩ := hW
  have hA : DataW.TrodAll enc Try.prog W 0 (fun _ => true) true Try.f4.params.toList args.toList ds p := hA0
  rw [Try.params4] at hA hval
  obtain ⟨v0, vs0, d0, ds0, p0, q0, hargs, rfl, rfl, h0, r0⟩ := trodAll_cons hA
  obtain ⟨v1, vs1, d1, ds1, p1, q1, rfl, rfl, rfl, h1, r1⟩ := trodAll_cons r0
  obtain ⟨rfl, rfl, rfl⟩ := trodAll_nil r1
  obtain rfl : args = #[v0, v1] := by cases args; simp_all
  obtain ⟨rfl, rfl⟩ := trodVars_none hV
  have k0 := h0
  have lt0 : ∀ x ∈ p0, x.block < W.heap.size := by obtain ⟨m, hm⟩ := k0; exact DataW.trod_lt m _ _ _ hm
  have k1 := h1
  have lt1 : ∀ x ∈ p1, x.block < W.heap.size := by obtain ⟨m, hm⟩ := k1; exact DataW.trod_lt m _ _ _ hm
  clear hA0 hval0
  refine (walk W v0 v1 (hval 0 _ v0 rfl rfl) (hval 1 _ v1 rfl rfl) h0 h1).mono fun e W' ⟨he, bel⟩ => ?_
  subst he
  exact ⟨_, rfl, _, _, _, [], _, [], hW', trodAll_mk1 (shut_bool Try.underlying4 _), (trodAll_cons_mk (Below.trod laidOut (by kernel_rfl) (of_decide_eq_true (by kernel_rfl)) k0 bel lt0) (trodAll_cons_mk (Below.trod laidOut (by kernel_rfl) (of_decide_eq_true (by kernel_rfl)) k1 bel lt1) trodAll_mk0)), rfl, bel.frame _, fun h => by cases h⟩

theorem over : Rows.fnExactSpanOfRow.holds Try.pinned (OpenSpec.ofChange Rows.fnExactSpanOfSpec) :=
  OpenClaim.holds_of_wide 4 Try.f4 rfl rfl rfl rfl rfl rfl rfl ⟨rfl, rfl, rfl, rfl, rfl⟩ rfl rfl rfl rfl rfl (by kernel_rfl) Try.func4 (by kernel_rfl)
    (of_decide_eq_true (by kernel_rfl)) (by unfold Func.isWrapper; first | (rw [if_pos (by decide +kernel)]; kernel_rfl) | (rw [if_neg (by decide +kernel)]; exact ⟨rfl, rfl⟩))
    (fun os started H enc _ => lifted os started H enc)

theorem proved : Rows.FnExactSpanOfSaid := over
end FnExactSpanOf

end Go.Proofs.Ythpgbklcbmpacaa
