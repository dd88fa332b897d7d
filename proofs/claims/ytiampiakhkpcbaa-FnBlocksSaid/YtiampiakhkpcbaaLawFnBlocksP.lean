/-
  Proved: events are made of their blocks, and these are those of a reduced list; mirroring twice gives the same events, and mirroring keeps fabrics equal, whatever the bytes are: the law answers true. No condition.
-/
import Derived.Test.YtiampiakhkpcbaaPk5
import Derived.Test.YtiampiakhkpcbaaPk15
import Derived.Test.YtiampiakhkpcbaaPk13
import Derived.Test.YtiampiakhkpcbaaPk14
import Derived.Test.YtiampiakhkpcbaaPk2
namespace Go.Proofs.Ytiampiakhkpcbaa
set_option linter.unusedVariables false
set_option linter.unusedSimpArgs false
open Go.ChangeShapes Go.WideShapes Go.ChangeAt Go.RowKit Go.Deep

theorem RdB.up {w w' : World} {v : Value} (h : RdB w w.heap.size v) (hb : Below w.heap.size w w') : RdB w' w'.heap.size v := by
  obtain ⟨A', n', c', e, h1, h2⟩ := h
  exact ⟨A', n', c', e, h1, fun k hk => by
    obtain ⟨b, off, x, q1, q2, q3, q4, q5⟩ := h2 k hk
    exact ⟨b, off, x, q1, Nat.lt_of_lt_of_le q2 hb.size, q3, q4, (hb.cell (p := ⟨b, off + k, none⟩) q2).trans q5⟩⟩
theorem RdBks.up_ {w w' : World} {v : Value} {l : List Bk} (h : RdBks w w.heap.size v l) (hb : Below w.heap.size w w') : RdBks w' w'.heap.size v l := RdBks.more (RdBks.below h hb) hb.size
set_option maxHeartbeats 8000000 in
set_option maxRecDepth 100000 in
theorem FnBlocks.core (v0 v1 : Value) (W : World) (hb0 : RdB W W.heap.size v0) (hb1 : RdB W W.heap.size v1) : Calls Try.prog 4 #[v0, v1] W fun e W' => e = .returned (.bool true) ∧ Below W.heap.size W W' := by
  have HB0 := Lib.hid hb0
  have HB1 := Lib.hid hb1
  obtain ⟨A0, n0, c0, rfl, hn0, -⟩ := hb0
  obtain ⟨A1, n1, c1, rfl, hn1, -⟩ := hb1
  by_cases hl0 : (1048576 : Int) < (n0 : Int)
  · have hd0 : decide ((1048576 : Int) < (n0 : Int)) = true := by simpa using hl0
    go_enter Try.func4, Try.ntmps4
    go_wp2
    go_ret
    exact ⟨rfl, Below.refl _ _⟩
  have hd0 : decide ((1048576 : Int) < (n0 : Int)) = false := by simpa using hl0
  by_cases hl1 : (1048576 : Int) < (n1 : Int)
  · have hd1 : decide ((1048576 : Int) < (n1 : Int)) = true := by simpa using hl1
    go_enter Try.func4, Try.ntmps4
    go_wp2
    go_ret
    exact ⟨rfl, Below.refl _ _⟩
  have hd1 : decide ((1048576 : Int) < (n1 : Int)) = false := by simpa using hl1
  go_enter Try.func4, Try.ntmps4
  go_wp2_with fail
  refine (e8Events_any W _ HB0.out).mono ?_
  rintro e w1 ⟨va, a, rfl, hra, hoka, hla, hb1'⟩
  have RA := Lib.hid hra
  have OKA := Lib.hid hoka
  have B1 := Lib.hid hb1'
  have V1 := Lib.hid (HB1.out.up hb1')
  have hsz1 := B1.out.size
  clear hra hoka hb1' HB0 HB1
  obtain ⟨Aa, na, ca, rfl, hnaa, hlaa, -⟩ := id RA.out
  have HLA := Lib.hid hlaa.out
  clear hlaa
  go_wp2_with fail
  refine (implBlocksOf_any _ a w1 RA.out).mono ?_
  rintro e w2 ⟨vx, rfl, hox, hb2⟩
  have RA2 := Lib.hid ((RA.out.below hb2).more hb2.size)
  have V2 := Lib.hid (V1.out.up hb2)
  have B2 := Lib.hid (B1.out.trans (hb2.mono hsz1))
  have hsz2 := B2.out.size
  have HOX := Lib.hid hox
  obtain ⟨Ax, cx, rfl⟩ := hox.shape
  have hco : bkoC a = 0 ∨ bkoC a = 5 := by rw [(bko_yes OKA.out).2]; exact bksC_cases a
  clear hb2 hox RA V1 B1
  rcases hco with hco | hco
  case inr =>
    have HQ := Lib.hid (specBlocksOf_any _ a w2 RA2.out)
    have HCO := Lib.hid hco
    rw [hco]
    clear hco
    generalize (bkoL a).length = lx at *
    go_wp2_with fail
    refine HQ.out.mono ?_
    rintro e w3 ⟨vy, rfl, hoy, hb3⟩
    rw [HCO.out]
    have B3 := Lib.hid (B2.out.trans (hb3.mono hsz2))
    obtain ⟨Ay, cy, rfl⟩ := hoy.shape
    clear hb3 hoy
    go_wp2
    go_ret
    exact ⟨ret_bool (by simp), B3.out⟩
  have hbc : bksC a = 0 := by rw [← (bko_yes OKA.out).2]; exact hco
  obtain ⟨q1, q2, q3, q4, q5, q6⟩ := evb_bks OKA.out hbc
  obtain ⟨x0, hx0, he0⟩ := bks_first OKA.out hbc
  rw [hco]
  have hal : bkoL a = bksL a := (bko_yes OKA.out).1
  rw [hal] at HOX ⊢
  have HQE := Lib.hid (implEvb_any _ (bksL a) w2 HOX.out.rd)
  rw [q1, q2] at HQE
  have HYC := Lib.hid (show bkoC (evsB (bksL a)) = 0 by rw [(bko_yes q3).2]; exact q4)
  have HYL := Lib.hid (show bkoL (evsB (bksL a)) = bksL a by rw [(bko_yes q3).1]; exact q5)
  have HX0 := Lib.hid hx0
  have HE0 := Lib.hid he0
  have hlx0 : 0 < (bksL a).length := (List.getElem?_eq_some_iff.1 hx0).1
  clear q1 q2 q3 q4 q5 hx0 he0 hal hbc hco
  generalize hLS : evsB (bksL a) = ls at *
  clear hLS
  generalize hX : bksL a = X at *
  clear hX
  generalize hlx : X.length = lx at *
  have HLX := Lib.hid hlx
  clear hlx
  go_wp2_with fail
  refine HQE.out.mono ?_
  rintro e w3 ⟨vl, rfl, hol, hb3⟩
  have RA3 := Lib.hid ((RA2.out.below hb3).more hb3.size)
  have V3 := Lib.hid (V2.out.up hb3)
  have B3 := Lib.hid (B2.out.trans (hb3.mono hsz2))
  have hsz3 := B3.out.size
  have RX3 := Lib.hid (RdBks.up_ HOX.out.rd hb3)
  have RL3 := Lib.hid (RdS.of_own Ev.len hol : RdE w3 w3.heap.size _ ls)
  obtain ⟨Al, cl, rfl, -⟩ := hol.cells
  clear hb3 hol RA2 V2 B2 HOX HQE
  go_wp2_with fail
  refine (implBlocksOf_any _ ls w3 RL3.out).mono ?_
  rintro e w4 ⟨vy, rfl, hoy, hb4⟩
  rw [HYC.out]
  rw [HYL.out] at hoy
  have RA4 := Lib.hid ((RA3.out.below hb4).more hb4.size)
  have V4 := Lib.hid (V3.out.up hb4)
  have B4 := Lib.hid (B3.out.trans (hb4.mono hsz3))
  have hsz4 := B4.out.size
  have RX4 := Lib.hid (RdBks.up_ RX3.out hb4)
  have RY4 := Lib.hid hoy.rd
  obtain ⟨Ay, cy, rfl⟩ := hoy.shape
  rw [HLX.out] at RY4 ⊢
  clear hb4 hoy RA3 V3 B3 RX3 RL3
  obtain ⟨bx, ox, y0, X0, d0, X1, d1, rfl, hbx, hly, hcx, hsx, htx⟩ := RX4.out.at2 hlx0
  rw [HX0.out] at hly
  injection hly with hly
  subst hly
  obtain ⟨by_, oy, y0', Y0, e0, Y1, e1, rfl, hby, hly, hcy, hsy, hty⟩ := RY4.out.at2 hlx0
  rw [HX0.out] at hly
  injection hly with hly
  subst hly
  have p0 : ∀ Z, (wgrow w4 Z).cell? ⟨bx, ox, none⟩ = some (.int .i64 x0.b.n) := fun Z => by simpa using hcx.grow Z 0 _ rfl
  have p1 : ∀ Z, (wgrow w4 Z).cell? ⟨bx, ox + 1, none⟩ = some (.slice X0 x0.b.w.length d0) := fun Z => by simpa using hcx.grow Z 1 _ rfl
  have p2 : ∀ Z, (wgrow w4 Z).cell? ⟨bx, ox + 2, none⟩ = some (.slice X1 x0.e.length d1) := fun Z => by simpa using hcx.grow Z 2 _ rfl
  have r0 : ∀ Z, (wgrow w4 Z).cell? ⟨by_, oy, none⟩ = some (.int .i64 x0.b.n) := fun Z => by simpa using hcy.grow Z 0 _ rfl
  have r1 : ∀ Z, (wgrow w4 Z).cell? ⟨by_, oy + 1, none⟩ = some (.slice Y0 x0.b.w.length e0) := fun Z => by simpa using hcy.grow Z 1 _ rfl
  have r2 : ∀ Z, (wgrow w4 Z).cell? ⟨by_, oy + 2, none⟩ = some (.slice Y1 x0.e.length e1) := fun Z => by simpa using hcy.grow Z 2 _ rfl
  have HQS := fun Z => Lib.hid (specSameBlocks_any (.slice (some ⟨bx, ox, none⟩) lx cx) (.slice (some ⟨by_, oy, none⟩) lx cy) X X (wgrow w4 Z) (RX4.out.up_ (below_wgrow w4 Z)) (RY4.out.up_ (below_wgrow w4 Z)))
  have HQQ := fun Z => Lib.hid (implEqualBlocks_any (.agg #[.int .i64 x0.b.n, .slice X0 x0.b.w.length d0, .slice X1 x0.e.length d1]) (.agg #[.int .i64 x0.b.n, .slice Y0 x0.b.w.length e0, .slice Y1 x0.e.length e1]) x0 x0 (wgrow w4 Z) ⟨_, _, rfl, hsx.up (below_wgrow w4 Z) (below_wgrow w4 Z).size, (htx.below (below_wgrow w4 Z)).more (below_wgrow w4 Z).size⟩ ⟨_, _, rfl, hsy.up (below_wgrow w4 Z) (below_wgrow w4 Z).size, (hty.below (below_wgrow w4 Z)).more (below_wgrow w4 Z).size⟩)
  rw [HE0.out] at HQQ
  have hdx : decide (X = X) = true := by simp
  rw [hdx] at HQS
  have g1 : decide ((lx : Int) < 1) = false := by simp; omega
  have g2 : decide (lx < 1) = false := by simp; omega
  have g3 : ¬ (lx : Int) < 1 := by omega
  have hlI : (0 : Int) < (lx : Int) := by omega
  clear hcx hcy hsx htx hsy hty hdx HX0 HE0 HYC HYL
  go_wp2_with fail
  refine wp_region_grow (by kernel_rfl) (by kernel_rfl) ?_
  repeat (go_big_quiet_step ((first | (go_at_call 14; exact calls_grow (HQS _).out) | (go_at_call 15; exact calls_grow (HQQ _).out))))
  refine wpQuiet_nil ?_
  intro w5 hb5
  have RA5 := Lib.hid ((RA4.out.below hb5).more hb5.size)
  have V5 := Lib.hid (V4.out.up hb5)
  have B5 := Lib.hid (B4.out.trans (hb5.mono hsz4))
  have hsz5 := B5.out.size
  have HLA18 := Lib.hid hla
  clear hb5 p0 p1 p2 r0 r1 r2 HQS HQQ RA4 RX4 RY4 V4 B4 g1 g2 g3
  go_wp2_with fail
  refine (implMirror_any _ a w5 RA5.out (by omega)).mono ?_
  rintro e w6 ⟨vm, rfl, hom, hb6⟩
  have RA6 := Lib.hid ((RA5.out.below hb6).more hb6.size)
  have V6 := Lib.hid (V5.out.up hb6)
  have B6 := Lib.hid (B5.out.trans (hb6.mono hsz5))
  have hsz6 := B6.out.size
  have RM6 := Lib.hid (RdS.of_own Ev.len hom : RdE w6 w6.heap.size _ (mirL a))
  obtain ⟨Am, cm, rfl, -⟩ := hom.cells
  clear hb6 hom RA5 V5 B5
  by_cases hmc : mirC a = 0
  case neg =>
    have HM6 : mirC a = 6 := by
      unfold mirC at hmc ⊢
      rw [if_pos OKA.out] at hmc ⊢
      split at hmc
      · omega
      · rename_i h9; rw [if_neg h9]
    rw [HM6]
    generalize (mirL a).length = lm at *
    clear hmc HM6
    go_wp2
    go_ret
    exact ⟨ret_bool (by simp), B6.out⟩
  obtain ⟨t1, t2, t3⟩ := mir_twice OKA.out hmc
  have HCM := Lib.hid (fun (b : List Ev) (hb : ChE 0 a b) (hl : b.length ≤ 2000) => ch_mir hb OKA.out hl hmc)
  have hml : (mirL a).length ≤ 1048576 := Nat.le_trans (mirL_len a) (by omega)
  rw [hmc]
  have HQM := Lib.hid (fun (w : World) (v : Value) (h : RdE w w.heap.size v (mirL a)) => implMirror_any v (mirL a) w h hml)
  rw [t2, t3] at HQM
  have HOM := Lib.hid t1
  clear t1 t2 t3 hmc hml
  generalize hMM : mirL a = m at *
  clear hMM
  generalize hlm : m.length = lm at *
  have HLM := Lib.hid hlm
  clear hlm
  go_wp2_with fail
  refine (HQM.out w6 _ RM6.out).mono ?_
  rintro e w7 ⟨vk, rfl, hok, hb7⟩
  have RA7 := Lib.hid ((RA6.out.below hb7).more hb7.size)
  have RM7 := Lib.hid ((RM6.out.below hb7).more hb7.size)
  have V7 := Lib.hid (V6.out.up hb7)
  have B7 := Lib.hid (B6.out.trans (hb7.mono hsz6))
  have hsz7 := B7.out.size
  have RK7 := Lib.hid (RdS.of_own Ev.len hok : RdE w7 w7.heap.size _ a)
  obtain ⟨Ak, ck, rfl, -⟩ := hok.cells
  clear hb7 hok RA6 RM6 V6 B6 HQM
  go_wp2_with fail
  refine (e8Changed_any w7 _ _ a V7.out RA7.out OKA.out (by have := HLA18.out; omega)).mono ?_
  rintro e w8 ⟨vb, b, rfl, hrb, hch, hlb, hb8⟩
  obtain ⟨u1, u2⟩ := HCM.out b hch hlb
  have RB8 := Lib.hid hrb
  have RA8 := Lib.hid ((RA7.out.below hb8).more hb8.size)
  have RM8 := Lib.hid ((RM7.out.below hb8).more hb8.size)
  have RK8 := Lib.hid ((RK7.out.below hb8).more hb8.size)
  have B8 := Lib.hid (B7.out.trans (hb8.mono hsz7))
  have hsz8 := B8.out.size
  have HQN := Lib.hid (implMirror_any _ b w8 RB8.out (by omega))
  rw [u1] at HQN
  have HCN := Lib.hid u2
  obtain ⟨Ab, nb, cb, rfl, -⟩ := id RB8.out
  clear hrb hch hb8 RA7 RM7 RK7 V7 B7 u1 u2 HCM
  generalize hNN : mirL b = nn at *
  clear hNN
  go_wp2_with fail
  refine HQN.out.mono ?_
  rintro e w9 ⟨vn, rfl, hon, hb9⟩
  have RA9 := Lib.hid ((RA8.out.below hb9).more hb9.size)
  have RM9 := Lib.hid ((RM8.out.below hb9).more hb9.size)
  have RK9 := Lib.hid ((RK8.out.below hb9).more hb9.size)
  have B9 := Lib.hid (B8.out.trans (hb9.mono hsz8))
  have hsz9 := B9.out.size
  have RN9 := Lib.hid (RdS.of_own Ev.len hon : RdE w9 w9.heap.size _ nn)
  obtain ⟨An, cn, rfl, -⟩ := hon.cells
  clear hb9 hon RA8 RM8 RK8 RB8 B8 HQN
  generalize hln : nn.length = ln at *
  have HLN := Lib.hid hln
  clear hln
  go_wp2_with fail
  refine (specSameEvents_any _ _ a a w9 w9.heap.size RK9.out RA9.out (Nat.le_refl _)).mono ?_
  rintro e w10 ⟨rfl, hb10⟩
  rw [show decide (a = a) = true by simp]
  have RM10 := Lib.hid ((RM9.out.below hb10).more hb10.size)
  have RN10 := Lib.hid ((RN9.out.below hb10).more hb10.size)
  have B10 := Lib.hid (B9.out.trans (hb10.mono hsz9))
  have hsz10 := B10.out.size
  clear hb10 RA9 RM9 RK9 RN9 B9
  go_wp2_with fail
  refine (specValidEvents_any _ m w10 w10.heap.size RM10.out (Nat.le_refl _)).mono ?_
  rintro e w11 ⟨rfl, hb11⟩
  rw [HOM.out]
  have RM11 := Lib.hid ((RM10.out.below hb11).more hb11.size)
  have RN11 := Lib.hid ((RN10.out.below hb11).more hb11.size)
  have B11 := Lib.hid (B10.out.trans (hb11.mono hsz10))
  have hsz11 := B11.out.size
  clear hb11 RM10 RN10 B10
  go_wp2_with fail
  refine (implSameFab_any _ _ m nn w11 RM11.out RN11.out).mono ?_
  rintro e w12 ⟨rfl, hb12⟩
  have B12 := Lib.hid (B11.out.trans (hb12.mono hsz11))
  clear hb12 RM11 RN11 B11
  rcases ch_fab HCN.out with hne | hsb
  · have HV := Lib.hid (sf_no hne)
    rw [HV.out]
    have hne' : (prC m nn != 0) = true := by simpa using hne
    generalize prC m nn = pc at *
    clear hne
    go_wp2
    go_ret
    exact ⟨ret_bool (by simp), B12.out⟩
  · have hpc : prC m nn = 0 := by unfold sfB at hsb; simp at hsb; exact hsb.1
    have HV := Lib.hid (show sfval m nn = .tuple #[.bool true, .int .i64 0] by unfold sfval; rw [hsb, hpc])
    rw [HV.out]
    clear hsb hpc
    go_wp2
    go_ret
    exact ⟨ret_bool (by simp), B12.out⟩
set_option maxRecDepth 100000 in
theorem FnBlocks.walk {H : Type} {enc : TypeId × Value → H} {base : Nat} {d0 : DataW H} {p0 : List MemPlace} {d1 : DataW H} {p1 : List MemPlace} (W : World) (v0 : Value) (v1 : Value) (o0 : Value.okWide Try.prog W .any base 22 v0) (o1 : Value.okWide Try.prog W .any base 22 v1)
    (h0 : DataW.Trod enc Try.prog W 0 (fun _ => true) true 22 v0 d0 p0) (h1 : DataW.Trod enc Try.prog W 0 (fun _ => true) true 22 v1 d1 p1) : Calls Try.prog 4 #[v0, v1] W fun e W' => e = .returned (.bool true) ∧ Below W.heap.size W W' :=
  FnBlocks.core v0 v1 W (open_rdB Try.underlying22 Try.underlying5 (by kernel_rfl) o0 h0) (open_rdB Try.underlying22 Try.underlying5 (by kernel_rfl) o1 h1)

namespace FnBlocks
theorem own : ownKnob Try.prog.godebug = none := by kernel_rfl
theorem laidOut : laidOutB Try.prog = true := by kernel_rfl

set_option maxRecDepth 100000 in
theorem lifted (os : Os) (started : os.Started) (H : Type) (enc : TypeId × Value → H) :
    ReturnsInHanded {} Try.checked os 4 .any (Rows.fnBlocksSpec.pre6 enc Try.prog Try.f4 Rows.fnBlocksRow.domain false) (Rows.fnBlocksSpec.post enc Try.prog Try.f4 false true false false) := by
  refine returnsInHanded_of_change (C := Try.checked) own started (by kernel_rfl) Try.func4
    (ChangeSpec.witness6 (enc := enc) (C := Try.checked) false ⟨#[], #[.slice none 0 0, .slice none 0 0], []⟩ 8 (by kernel_rfl) (by kernel_rfl) (by kernel_rfl) (by kernel_rfl)) ?_
  intro W base args ds gs before hval0 hW hcnd _
  have hval : ∀ (j : Nat) t v, Try.f4.params[j]? = some t → args[j]? = some v → Value.okWide Try.prog W .any base t v := hval0
  have hW' := hW
  obtain ⟨p, q, hA0, hV, rfl, hfz, hnd⟩ := hW
  have hA : DataW.TrodAll enc Try.prog W 0 (fun _ => true) true Try.f4.params.toList args.toList ds p := hA0
  rw [Try.params4] at hA hval
  obtain ⟨v0, vs0, d0, ds0, p0, q0, hargs, rfl, rfl, h0, r0⟩ := trodAll_cons hA
  obtain ⟨v1, vs1, d1, ds1, p1, q1, rfl, rfl, rfl, h1, r1⟩ := trodAll_cons r0
  obtain ⟨rfl, rfl, rfl⟩ := trodAll_nil r1
  obtain rfl : args = #[v0, v1] := by cases args; simp_all
  obtain ⟨rfl, rfl⟩ := trodVars_none hV
  have k0 := h0
  have lt0 : ∀ x ∈ p0, x.block < W.heap.size := by obtain ⟨m, hm⟩ := k0; exact DataW.trod_lt m _ _ _ hm
  have k1 := h1
  have lt1 : ∀ x ∈ p1, x.block < W.heap.size := by obtain ⟨m, hm⟩ := k1; exact DataW.trod_lt m _ _ _ hm
  clear hA0 hval0
  refine (walk W v0 v1 (hval 0 _ v0 rfl rfl) (hval 1 _ v1 rfl rfl) h0 h1).mono fun e W' ⟨he, bel⟩ => ?_
  subst he
  exact ⟨_, rfl, _, _, _, [], _, [], hW', trodAll_mk1 (shut_bool Try.underlying4 _), (trodAll_cons_mk (Below.trod laidOut (by kernel_rfl) (of_decide_eq_true (by kernel_rfl)) k0 bel lt0) (trodAll_cons_mk (Below.trod laidOut (by kernel_rfl) (of_decide_eq_true (by kernel_rfl)) k1 bel lt1) trodAll_mk0)), rfl, bel.frame _, fun h => by cases h⟩

theorem over : Rows.fnBlocksRow.holds Try.pinned (OpenSpec.ofChange Rows.fnBlocksSpec) :=
  OpenClaim.holds_of_wide 4 Try.f4 rfl rfl rfl rfl rfl rfl rfl ⟨rfl, rfl, rfl, rfl, rfl⟩ rfl rfl rfl rfl rfl (by kernel_rfl) Try.func4 (by kernel_rfl)
    (of_decide_eq_true (by kernel_rfl)) (by unfold Func.isWrapper; first | (rw [if_pos (by decide +kernel)]; kernel_rfl) | (rw [if_neg (by decide +kernel)]; exact ⟨rfl, rfl⟩))
    (fun os started H enc _ => lifted os started H enc)

theorem proved : Rows.FnBlocksSaid := over
end FnBlocks

end Go.Proofs.Ytiampiakhkpcbaa
