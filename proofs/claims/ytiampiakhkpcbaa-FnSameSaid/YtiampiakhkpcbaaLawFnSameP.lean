/-
  Proved: braids that are changed by relations keep the fabric, reducing keeps it too, and every stitch that is knitted on the other bed is found in its block, whatever the bytes are: the law answers true. No condition.
-/
import Derived.Test.YtiampiakhkpcbaaPk5
import Derived.Test.YtiampiakhkpcbaaPk14
import Derived.Test.YtiampiakhkpcbaaPk2
namespace Go.Proofs.Ytiampiakhkpcbaa
set_option linter.unusedVariables false
set_option linter.unusedSimpArgs false
open Go.ChangeShapes Go.WideShapes Go.ChangeAt Go.RowKit Go.Deep

theorem flat6_set (l : List Ev) (k i : Nat) (e e' : Ev) (u : Value) (hk : l[k]? = some e) (hi : i < 6) (he : e.cells.set i u = e'.cells) : (vE l).set (k * 6 + i) u = vE (l.set k e') := by
  induction l generalizing k with
  | nil => simp at hk
  | cons x l ih =>
    have e1 : vE (x :: l) = x.cells ++ vE l := by simp [vS]
    cases k with
    | zero =>
      simp at hk
      subst hk
      rw [e1, List.set_cons_zero, show vE (e' :: l) = e'.cells ++ vE l by simp [vS], ← he, Nat.zero_mul, Nat.zero_add]
      exact List.set_append_left _ _ (by simpa using hi)
    | succ k =>
      have h1 := ih k (by simpa using hk)
      rw [e1, List.set_cons_succ, show vE (x :: l.set k e') = x.cells ++ vE (l.set k e') by simp [vS], ← h1]
      rw [List.set_append_right _ _ (by simp; omega)]
      congr 2
      simp
      omega
theorem flat6_get (l : List Ev) (k i : Nat) (e : Ev) (u : Value) (hk : l[k]? = some e) (hu : e.cells[i]? = some u) : (vE l)[k * 6 + i]? = some u := by
  have hi : i < 6 := by have := (List.getElem?_eq_some_iff.1 hu).1; simpa using this
  induction l generalizing k with
  | nil => simp at hk
  | cons x l ih =>
    have e1 : vE (x :: l) = x.cells ++ vE l := by simp [vS]
    cases k with
    | zero =>
      simp at hk
      subst hk
      rw [e1, Nat.zero_mul, Nat.zero_add, List.getElem?_append_left (by simpa using hi)]
      exact hu
    | succ k =>
      rw [e1, List.getElem?_append_right (by simp; omega), ← ih k (by simpa using hk)]
      congr 1
      simp
      omega
theorem ok_at {x : Ev} : ∀ (l : List Ev) (n : Int) (k : Nat), (cntE n l).isSome = true → l[k]? = some x → ∃ m, valE m x = true
  | [], n, k, _, h => by simp at h
  | y :: l, n, 0, hc, h => by
    simp at h
    subst h
    exact ⟨n, (cnt_at (l := y :: l) (k := 0) (x := y) (by simpa using hc) rfl).1⟩
  | y :: l, n, k + 1, hc, h => ok_at l (aftE n y) k (by simpa using (cnt_at (l := y :: l) (k := 0) (x := y) (by simpa using hc) rfl).2.2) (by simpa using h)
theorem bed_12 {l : List Ev} {k : Nat} {x : Ev} (h : okEvs l = true) (hx : l[k]? = some x) (hk : x.k = 2) : x.b = 1 ∨ x.b = 2 := by
  obtain ⟨h1, _⟩ := okEvs_cnt' h
  rw [List.drop_zero] at h1
  obtain ⟨m, hm⟩ := ok_at l 0 k h1 hx
  unfold valE at hm
  simp [hk, stit3, bedB] at hm
  exact hm.2.2.2.1
set_option maxHeartbeats 8000000 in
set_option maxRecDepth 100000 in
theorem FnSame.core (v0 v1 : Value) (W : World) (hb0 : RdB W W.heap.size v0) (hb1 : RdB W W.heap.size v1) : Calls Try.prog 3 #[v0, v1] W fun e W' => e = .returned (.bool true) ∧ Below W.heap.size W W' := by
  have HB0 := Lib.hid hb0
  have HB1 := Lib.hid hb1
  obtain ⟨A0, n0, c0, rfl, hn0, -⟩ := hb0
  obtain ⟨A1, n1, c1, rfl, hn1, -⟩ := hb1
  by_cases hl0 : (1048576 : Int) < (n0 : Int)
  · have hd0 : decide ((1048576 : Int) < (n0 : Int)) = true := by simpa using hl0
    go_enter Try.func3, Try.ntmps3
    go_wp2
    go_ret
    exact ⟨rfl, Below.refl _ _⟩
  have hd0 : decide ((1048576 : Int) < (n0 : Int)) = false := by simpa using hl0
  by_cases hl1 : (1048576 : Int) < (n1 : Int)
  · have hd1 : decide ((1048576 : Int) < (n1 : Int)) = true := by simpa using hl1
    go_enter Try.func3, Try.ntmps3
    go_wp2
    go_ret
    exact ⟨rfl, Below.refl _ _⟩
  have hd1 : decide ((1048576 : Int) < (n1 : Int)) = false := by simpa using hl1
  obtain ⟨i0, hi, hz0, hz1, hz2⟩ := info_parts info_ev
  go_enter Try.func3, Try.ntmps3
  go_wp2_with fail
  refine (e8Events_any W _ HB0.out).mono ?_
  rintro e w1 ⟨va, a, rfl, hra, hoka, hla, hb1'⟩
  have RA := Lib.hid hra
  have OKA := Lib.hid hoka
  have B1 := Lib.hid hb1'
  have V1 := Lib.hid (show RdB w1 w1.heap.size (.slice A1 n1 c1) by
    obtain ⟨A', n', c', e, h1, h2⟩ := HB1.out
    injection e with e1 e2 e3
    subst e1 e2 e3
    exact ⟨_, _, _, rfl, h1, fun k hk => by
      obtain ⟨b, off, x, q1, q2, q3, q4, q5⟩ := h2 k hk
      exact ⟨b, off, x, q1, Nat.lt_of_lt_of_le q2 hb1'.size, q3, q4, (hb1'.cell (p := ⟨b, off + k, none⟩) q2).trans q5⟩⟩)
  clear hra hoka hb1' HB0 HB1
  obtain ⟨Aa, na, ca, rfl, -⟩ := RA.out.shape'
  go_wp2_with fail
  refine (e8Changed_any w1 _ _ a V1.out RA.out OKA.out (by omega)).mono ?_
  rintro e w2 ⟨vb, b, rfl, hrb, hch, hlb, hb2⟩
  have RB := Lib.hid hrb
  have CH := Lib.hid hch
  have RA2 := Lib.hid ((RA.out.below hb2).more hb2.size)
  have B2 := Lib.hid (B1.out.trans (hb2.mono B1.out.size))
  clear hrb hch hb2 RA V1 B1
  obtain ⟨Ab, nb, cb, rfl, hnb, hlb', -⟩ := id RB.out
  have HLB := Lib.hid hlb'.out
  have hnb2 : nb ≤ 2000 := by have := hlb'.out; omega
  clear hlb'
  have hsz2 := B2.out.size
  go_wp2_with fail
  refine (implSameFab_any _ _ a b w2 RA2.out RB.out).mono ?_
  rintro e w3 ⟨rfl, hb3⟩
  have RA3 := Lib.hid ((RA2.out.below hb3).more hb3.size)
  have RB3 := Lib.hid ((RB.out.below hb3).more hb3.size)
  have B3 := Lib.hid (B2.out.trans (hb3.mono hsz2))
  have hsz3 := B3.out.size
  clear hb3 RA2 RB B2
  by_cases hpc : prC a b = 0
  case neg =>
    have HV := Lib.hid (sf_no hpc)
    have hne : (prC a b != 0) = true := by simpa using hpc
    have HQ := Lib.hid (specSameFab_any _ _ a b w3 RA3.out RB3.out)
    rw [HV.out] at HQ ⊢
    generalize prC a b = pc at *
    go_wp2_with fail
    refine HQ.out.mono ?_
    rintro e w4 ⟨rfl, hb4⟩
    have B4 := Lib.hid (B3.out.trans (hb4.mono hsz3))
    clear hb4 hpc
    go_wp2
    go_ret
    exact ⟨ret_bool (by simp), B4.out⟩
  obtain ⟨hkey, hfd⟩ := ch_same CH.out hpc
  obtain ⟨hs1, hs2, hs3, hs4, hs5, hs6⟩ := red_same hkey hpc
  obtain ⟨⟨hoka, hca⟩, hokb, hcb⟩ := prC_good hpc
  have HV := Lib.hid (sf_neg hpc (by omega : fdL a b < 0))
  have HVF := Lib.hid (fd_neg hpc (by omega : fdL a b < 0))
  have HVS := Lib.hid (sf_neg hs5 (by omega : fdL a (evsB (bksL b)) < 0))
  have HBK := Lib.hid (fun (i : Nat) (x : Ev) (h : b[i]? = some x) (hk : x.k = 2) => And.intro (bed_12 hokb h hk) (bed_found hkey hpc h hk hfd))
  have HRC := Lib.hid (show rdcL b = evsB (bksL b) by unfold rdcL; rw [(bko_yes hokb).1])
  have HRO := Lib.hid (show bkoC b = 0 by rw [(bko_yes hokb).2]; exact hcb)
  have HAO := Lib.hid (show bkoC a = 0 by rw [(bko_yes hoka).2]; exact hca)
  have HAL := Lib.hid (show bkoL a = bksL a from (bko_yes hoka).1)
  have HSL := Lib.hid hs4
  rw [HV.out]
  clear hkey hfd hs1 hs2 hs3 hs4 hs5 hs6 hoka hca hokb hcb hpc
  have HQR := Lib.hid (implReduce_any _ b w3 RB3.out)
  rw [HRC.out, HRO.out] at HQR
  generalize hSH : evsB (bksL b) = sh at *
  clear hSH
  go_wp2_with fail
  refine HQR.out.mono ?_
  rintro e w4 ⟨vs, rfl, hos, hb4⟩
  obtain ⟨As, cs, rfl, -⟩ := hos.cells
  have RS4 := Lib.hid (RdS.of_own Ev.len hos : RdE w4 w4.heap.size _ sh)
  have RA4 := Lib.hid ((RA3.out.below hb4).more hb4.size)
  have RB4 := Lib.hid ((RB3.out.below hb4).more hb4.size)
  have B4 := Lib.hid (B3.out.trans (hb4.mono hsz3))
  have hsz4 := B4.out.size
  clear hb4 hos RA3 RB3 B3 HQR
  go_wp2_with fail
  refine (implSameFab_any _ _ a sh w4 RA4.out RS4.out).mono ?_
  rintro e w5 ⟨rfl, hb5⟩
  rw [HVS.out]
  have RA5 := Lib.hid ((RA4.out.below hb5).more hb5.size)
  have RB5 := Lib.hid ((RB4.out.below hb5).more hb5.size)
  have B5 := Lib.hid (B4.out.trans (hb5.mono hsz4))
  have hsz5 := B5.out.size
  clear hb5 RA4 RB4 RS4 B4
  go_wp2_with fail
  refine (implFirstFab_any _ _ a b w5 RA5.out RB5.out).mono ?_
  rintro e w6 ⟨rfl, hb6⟩
  rw [HVF.out]
  have RA6 := Lib.hid ((RA5.out.below hb6).more hb6.size)
  have RB6 := Lib.hid ((RB5.out.below hb6).more hb6.size)
  have B6 := Lib.hid (B5.out.trans (hb6.mono hsz5))
  have hsz6 := B6.out.size
  have hsl : sh.length ≤ nb := by have := HSL.out; have := HLB.out; omega
  have hg1 : decide ((nb : Int) < (sh.length : Int)) = false := by simp; omega
  have hg2 : decide (nb < sh.length) = false := by simp; omega
  have hg3 : ¬ (nb : Int) < (sh.length : Int) := by omega
  clear hb6 RA5 RB5 B5 HV HVF HVS HRC HRO
  generalize sh.length = sl at *
  go_wp2_with fail
  go_loopw [17] (fun vi wr => ∃ (k : Nat) (wq : World), wq = wr ∧ k ≤ nb ∧ vi = .int .i64 k ∧ Hid (Below w6.heap.size w6 wq)) (fun i _ => nb - (intOf i).toNat)
  case atStart => exact ⟨0, w6, rfl, Nat.zero_le _, rfl, Below.refl _ _⟩
  case round =>
    obtain ⟨k, wq, hwq, hk, rfl, hb⟩ := hrel
    subst hwq
    have BQ := Lib.hid (B6.out.trans (hb.out.mono hsz6))
    have RAq := Lib.hid ((RA6.out.below hb.out).more hb.out.size)
    have RBq := Lib.hid ((RB6.out.below hb.out).more hb.out.size)
    have hszq := hb.out.size
    by_cases hlt : k < nb
    · obtain ⟨bb, ob, x, e9, hbb, hlk, hcc⟩ := RdS.at_ RBq.out hlt
      subst e9
      obtain ⟨z0, z1, z2, z3, z4, z5⟩ := hcc.six
      by_cases hk2 : x.k = 2
      case neg =>
        have hk2' : (x.k != 2) = true := by simpa using hk2
        clear hk2 hcc hlk
        go_wp2
        exact ⟨⟨k + 1, wq, rfl, by omega, by go_num, hb.out⟩, by simp [intOf]; omega⟩
      have hk2' : (x.k != 2) = false := by simp [hk2]
      obtain ⟨hxb, f1, f2, f3, f4, f5, f6, f7⟩ := HBK.out k x hlk hk2
      have HRB := Lib.hid ((RBq.out.reads Ev.len (by decide)).1)
      have HLK := Lib.hid hlk
      have hwb : IntKind.i64.wrap (3 - x.b) = 3 - x.b := IntWalk.i64_in _ (by omega)
      generalize hXS : b.set k { x with b := 3 - x.b } = xs at *
      have HXS := Lib.hid hXS
      have HSF := Lib.hid (sf_pos f3 (by omega))
      have HFF := Lib.hid (fd_pos f4 (by omega))
      have hf6 : 0 ≤ fdL xs a := f6
      have hf7 : fdL xs a < ((bksL a).length : Int) := f7
      clear hXS f1 f2 f3 f4 f5 f6 f7 hk2 hcc hlk hxb
      go_wp2_with (at_builtin; refine wpList_append_any _ rfl _ _ _ rfl wq.heap.size 33 i0 _ 6 48 Try.underlying23 hi hz0 hz1 hz2 rfl (by decide) _ 0 [] rfl (World.ownsRow_lit wq #[] 0 (Nat.le_refl _) (by unfold maxLen; omega) rfl) wq.heap.size _ nb cb (vE b) rfl (HRB.out.alloc (Nat.le_refl _) _) (vE_one2 _) (by unfold maxLen; omega) (by omega) (by simp) ?_)
      intro v7 w7 hown7 hg7 hat7
      have hb7 : Below wq.heap.size wq w7 := ((Below.refl wq.heap.size wq).alloc (Nat.le_refl _) _).grown hg7 (by simp) (fun kk hkk => by simp [Value.ownBlock] at hkk; omega)
      have R7 : Hid (w7.ownsRow wq.heap.size 33 6 v7 nb (vE b)) := by unfold Hid; simpa using hown7
      obtain ⟨A7, c7, rfl⟩ := own_shape R7.out
      obtain ⟨g7, rfl, hg0, hg1⟩ := own_ptr R7.out (by omega)
      have y3 := (own_cellx R7.out (flat6_get b k 3 x _ HLK.out rfl)).1
      have yf := (own_cellx R7.out (flat6_get b k 3 x _ HLK.out rfl)).2.1
      have R8 := Lib.hid (own_setx (.int .i64 (3 - x.b)) R7.out (i := k * 6 + 3) (by omega))
      rw [flat6_set b k 3 x { x with b := 3 - x.b } _ HLK.out (by decide) rfl, HXS.out] at R8
      have B7 := Lib.hid (hb7.setCell (p := ⟨g7, k * 6 + 3, none⟩) hg0 (.int .i64 (3 - x.b)))
      clear hown7 hg7 hat7 hb7 R7 z0 z1 z2 z3 z4 z5
      go_upto_region 20 with fail
      generalize w7.setCell ⟨g7, k * 6 + 3, none⟩ (.int .i64 (3 - x.b)) = w8 at *
      clear y3 yf
      have hxl : xs.length = nb := by rw [← HXS.out, List.length_set]; exact HLB.out
      have RX8 := Lib.hid (RdS.of_own Ev.len (OwC.of_own (by rw [hxl]; exact R8.out)) : RdE w8 w8.heap.size (.slice (some ⟨g7, 0, none⟩) xs.length c7) xs)
      have hsz8 := B7.out.size
      have RA8 := Lib.hid ((RAq.out.below B7.out).more hsz8)
      rw [hxl] at RX8
      clear hxl R8 RBq
      go_wp2_with fail
      refine (implSameFab_any _ _ a xs w8 RA8.out RX8.out).mono ?_
      rintro e w9 ⟨rfl, hb9⟩
      rw [HSF.out]
      have RA9 := Lib.hid ((RA8.out.below hb9).more hb9.size)
      have RX9 := Lib.hid ((RX8.out.below hb9).more hb9.size)
      have B9 := Lib.hid (B7.out.trans (hb9.mono hsz8))
      have hsz9 := B9.out.size
      clear hb9 RA8 RX8 B7
      go_wp2_with fail
      refine (implFirstFab_any _ _ xs a w9 RX9.out RA9.out).mono ?_
      rintro e w10 ⟨rfl, hb10⟩
      rw [HFF.out]
      have RA10 := Lib.hid ((RA9.out.below hb10).more hb10.size)
      have B10 := Lib.hid (B9.out.trans (hb10.mono hsz9))
      have hsz10 := B10.out.size
      clear hb10 RA9 RX9 B9
      have HQB := Lib.hid (specBlocksOf_any _ a w10 RA10.out)
      go_wp2_with fail
      refine HQB.out.mono ?_
      rintro e w11 ⟨vz, rfl, hoz, hb11⟩
      obtain ⟨Az, cz, rfl⟩ := hoz.shape
      rw [HAO.out, HAL.out]
      generalize (bksL a).length = lz at *
      generalize fdL xs a = fz at *
      have B11 := Lib.hid (hb.out.trans ((B10.out.trans (hb11.mono hsz10)).mono hszq))
      have d1 : decide (fz < 0) = false := by simp; omega
      have d2 : decide ((lz : Int) ≤ fz) = false := by simp; omega
      have d3 : ¬ (lz : Int) ≤ fz := by omega
      have d4 : ¬ fz < 0 := by omega
      clear hb11 hoz RA10 B10 HQB
      go_wp2
      exact ⟨⟨k + 1, w11, rfl, by omega, by go_num, B11.out⟩, by simp [intOf]; omega⟩
    · have h9 : ¬ (k : Int) < (nb : Int) := by omega
      go_wp2
      go_ret
      exact ⟨rfl, BQ.out⟩
set_option maxRecDepth 100000 in
theorem FnSame.walk {H : Type} {enc : TypeId × Value → H} {base : Nat} {d0 : DataW H} {p0 : List MemPlace} {d1 : DataW H} {p1 : List MemPlace} (W : World) (v0 : Value) (v1 : Value) (o0 : Value.okWide Try.prog W .any base 22 v0) (o1 : Value.okWide Try.prog W .any base 22 v1)
    (h0 : DataW.Trod enc Try.prog W 0 (fun _ => true) true 22 v0 d0 p0) (h1 : DataW.Trod enc Try.prog W 0 (fun _ => true) true 22 v1 d1 p1) : Calls Try.prog 3 #[v0, v1] W fun e W' => e = .returned (.bool true) ∧ Below W.heap.size W W' :=
  FnSame.core v0 v1 W (open_rdB Try.underlying22 Try.underlying5 (by kernel_rfl) o0 h0) (open_rdB Try.underlying22 Try.underlying5 (by kernel_rfl) o1 h1)

namespace FnSame
theorem own : ownKnob Try.prog.godebug = none := by kernel_rfl
theorem laidOut : laidOutB Try.prog = true := by kernel_rfl

set_option maxRecDepth 100000 in
theorem lifted (os : Os) (started : os.Started) (H : Type) (enc : TypeId × Value → H) :
    ReturnsInHanded {} Try.checked os 3 .any (Rows.fnSameSpec.pre6 enc Try.prog Try.f3 Rows.fnSameRow.domain false) (Rows.fnSameSpec.post enc Try.prog Try.f3 false true false false) := by
  refine returnsInHanded_of_change (C := Try.checked) own started (by kernel_rfl) Try.func3
    (ChangeSpec.witness6 (enc := enc) (C := Try.checked) false ⟨#[], #[.slice none 0 0, .slice none 0 0], []⟩ 8 (by kernel_rfl) (by kernel_rfl) (by kernel_rfl) (by kernel_rfl)) ?_
  intro W base args ds gs before hval0 hW hcnd _
  have hval : ∀ (j : Nat) t v, Try.f3.params[j]? = some t → args[j]? = some v → Value.okWide Try.prog W .any base t v := hval0
  have hW' := hW
  obtain ⟨p, q, hA0, hV, rfl, hfz, hnd⟩ := hW
  have hA : DataW.TrodAll enc Try.prog W 0 (fun _ => true) true Try.f3.params.toList args.toList ds p := hA0
  rw [Try.params3] at hA hval
  obtain ⟨v0, vs0, d0, ds0, p0, q0, hargs, rfl, rfl, h0, r0⟩ := trodAll_cons hA
  obtain ⟨v1, vs1, d1, ds1, p1, q1, rfl, rfl, rfl, h1, r1⟩ := trodAll_cons r0
  obtain ⟨rfl, rfl, rfl⟩ := trodAll_nil r1
  obtain rfl : args = #[v0, v1] := by cases args; simp_all
  obtain ⟨rfl, rfl⟩ := trodVars_none hV
  have k0 := h0
  have lt0 : ∀ x ∈ p0, x.block < W.heap.size := by obtain ⟨m, hm⟩ := k0; exact DataW.trod_lt m _ _ _ hm
  have k1 := h1
  have lt1 : ∀ x ∈ p1, x.block < W.heap.size := by obtain ⟨m, hm⟩ := k1; exact DataW.trod_lt m _ _ _ hm
  clear hA0 hval0
  refine (walk W v0 v1 (hval 0 _ v0 rfl rfl) (hval 1 _ v1 rfl rfl) h0 h1).mono fun e W' ⟨he, bel⟩ => ?_
  subst he
  exact ⟨_, rfl, _, _, _, [], _, [], hW', trodAll_mk1 (shut_bool Try.underlying4 _), (trodAll_cons_mk (Below.trod laidOut (by kernel_rfl) (of_decide_eq_true (by kernel_rfl)) k0 bel lt0) (trodAll_cons_mk (Below.trod laidOut (by kernel_rfl) (of_decide_eq_true (by kernel_rfl)) k1 bel lt1) trodAll_mk0)), rfl, bel.frame _, fun h => by cases h⟩

theorem over : Rows.fnSameRow.holds Try.pinned (OpenSpec.ofChange Rows.fnSameSpec) :=
  OpenClaim.holds_of_wide 3 Try.f3 rfl rfl rfl rfl rfl rfl rfl ⟨rfl, rfl, rfl, rfl, rfl⟩ rfl rfl rfl rfl rfl (by kernel_rfl) Try.func3 (by kernel_rfl)
    (of_decide_eq_true (by kernel_rfl)) (by unfold Func.isWrapper; first | (rw [if_pos (by decide +kernel)]; kernel_rfl) | (rw [if_neg (by decide +kernel)]; exact ⟨rfl, rfl⟩))
    (fun os started H enc _ => lifted os started H enc)

theorem proved : Rows.FnSameSaid := over
end FnSame

end Go.Proofs.Ytiampiakhkpcbaa
