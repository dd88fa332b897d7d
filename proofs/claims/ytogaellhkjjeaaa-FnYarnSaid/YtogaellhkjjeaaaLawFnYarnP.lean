/-
  Proved: the loops of all carriers are all loops, and neighbours on a yarn follow one another, whatever the bytes are: the law answers true. No condition.
-/
import Derived.Test.YtogaellhkjjeaaaPk5
import Derived.Test.YtogaellhkjjeaaaPk3
import Derived.Test.YtogaellhkjjeaaaPk1
namespace Go.Proofs.Ytogaellhkjjeaaa
set_option linter.unusedVariables false
set_option linter.unusedSimpArgs false
open Go.ChangeShapes Go.WideShapes Go.ChangeAt Go.RowKit Go.Deep

def ysN (l : List Inf) : Nat → Nat
  | 0 => 0
  | j + 1 => ysN l j + (if j = 0 then 0 else (yarnGo (j : Int) 0 l).length)
theorem ysN_le (l : List Inf) : ∀ j, ysN l j ≤ j * l.length
  | 0 => by simp [ysN]
  | j + 1 => by
    have h1 := ysN_le l j
    have h2 := yarnGo_len (j : Int) l 0
    rw [ysN, Nat.add_mul]
    split <;> omega
theorem ysN_next {l : List Inf} {j : Nat} (h : 1 ≤ j) : ysN l (j + 1) = ysN l j + (yarnGo (j : Int) 0 l).length := by rw [ysN, if_neg (by omega)]
theorem ysN_all {l : List Inf} (h : ∀ x ∈ l, 1 ≤ x.y ∧ x.y ≤ 4) : ysN l 5 = l.length := by
  have := yarn_sum l 0 h
  simp [ysN]
  omega
theorem ok_yarnY {m : Mc} {j : Nat} {x : Inf} (h : okM m = true) (hx : m.ls[j]? = some x) : 1 ≤ x.y ∧ x.y ≤ 4 := by
  have h1 := (okM_iff.1 h).inf j x hx
  unfold okInf headI at h1
  simp only [Bool.and_eq_true] at h1
  exact inB_iff.1 h1.2.1.1
theorem RdM.lsY_ {w : World} {B : Nat} {m : Mc} {wd rk F G C L D : Value} (h : RdM w B (.agg #[wd, rk, F, G, C, L, D]) m) : RdIs w B L m.ls := by
  obtain ⟨f, b, cs, ls, d, e, h1, h2, h3, h4, h5, h6⟩ := h
  injection e with e
  simp only [Array.mk.injEq, List.cons.injEq] at e
  obtain ⟨-, -, -, -, -, rfl, -⟩ := e
  exact h4
set_option maxHeartbeats 40000000 in
set_option maxRecDepth 100000 in
theorem FnYarn.core (v0 : Value) (W : World) (hb : RdB W W.heap.size v0) : Calls Try.prog 3 #[v0] W fun e W' => e = .returned (.bool true) ∧ Below W.heap.size W W' := by
  have HB := Lib.hid hb
  obtain ⟨A0, n0, c0, rfl, hn0, -⟩ := hb
  by_cases hlong : 1048576 < n0
  · go_enter Try.func3, Try.ntmps3
    go_wp2_with fail
    refine (b10Long_s A0 n0 c0 hn0 true (by simpa using hlong) _).mono ?_
    rintro e w' ⟨rfl, rfl⟩
    go_wp2
    go_ret
    exact ⟨rfl, Below.refl _ _⟩
  · go_enter Try.func3, Try.ntmps3
    go_wp2_with fail
    refine (b10Long_s A0 n0 c0 hn0 false (by simpa using hlong) _).mono ?_
    rintro e w' ⟨rfl, rfl⟩
    go_wp2_with fail
    refine (DrawYarnNeighbours_any W _ HB.out).mono ?_
    rintro e w1 ⟨m, v, k, rfl, hrd, hsm, hk0, hk1, hb1⟩
    obtain ⟨A1, c1, A2, c2, A3, c3, A4, c4, A5, c5, rfl⟩ := RdM.shape hrd.rd
    have hbA := (Below.refl w1.heap.size w1).alloc (Nat.le_refl _) (.cells (mcV m.wd m.rk (.slice A1 m.fr.length c1) (.slice A2 m.bk.length c2) (.slice A3 m.cs.length c3) (.slice A4 m.ls.length c4) (.slice A5 m.dr.length c5)) 29)
    have V1 := Lib.hid (hrd.below (Nat.le_refl _) hbA)
    have HSM := Lib.hid hsm
    have B1 := Lib.hid (hb1.trans (hbA.mono hb1.size))
    have X1 := Lib.hid (Bx.new w1 [.int .i64 m.wd, .int .i64 m.rk, .slice A1 m.fr.length c1, .slice A2 m.bk.length c2, .slice A3 m.cs.length c3, .slice A4 m.ls.length c4, .slice A5 m.dr.length c5] 29)
    clear hrd hsm hb1 hbA hlong
    go_wp2_with fail
    generalize w1.alloc (.cells (mcV m.wd m.rk (.slice A1 m.fr.length c1) (.slice A2 m.bk.length c2) (.slice A3 m.cs.length c3) (.slice A4 m.ls.length c4) (.slice A5 m.dr.length c5)) 29) = wA at *
    generalize w1.heap.size = gm at *
    refine (implNb_any _ m k wA V1.out.rd HSM.out.fit).mono ?_
    rintro e w2 ⟨hr, hb2⟩
    have V2 := Lib.hid (V1.out.below (Nat.le_refl _) hb2)
    have B2 := Lib.hid (B1.out.trans (hb2.mono B1.out.size))
    have X2 := Lib.hid (X1.out.below hb2 X1.out.2.2)
    clear hb2 V1 B1 X1
    unfold nbR at hr
    subst hr
    by_cases ha : askC m k = 0
    · obtain ⟨ok, h0, h1⟩ := ask_zeroN ha
      rw [ha]
      obtain ⟨kn, rfl⟩ := Int.eq_ofNat_of_zero_le h0
      have hkl : kn < m.ls.length := by omega
      have hx : m.ls[kn]? = some m.ls[kn] := List.getElem?_eq_getElem hkl
      generalize m.ls[kn] = x at hx
      obtain ⟨P, S, hPS, hP, hSS, hlen⟩ := yarn_split hx
      have hN : nbL m (kn : Int) = P ++ (kn : Int) :: S := by
        unfold nbL
        rw [show ((kn : Int)).toNat = kn by omega, hx]
        exact hPS
      have hnb := nbF_lo h0 hSS P (-1) hP
      have e0 : nb0 m (kn : Int) = P.getLast?.getD (-1) := by unfold nb0; rw [if_pos ha, hN, hnb]
      have e1 : nb1 m (kn : Int) = S.head?.getD (-1) := by unfold nb1; rw [if_pos ha, hN, hnb]
      rw [e0, e1]
      have hy := ok_yarnY ok hx
      have hls : m.ls.length ≤ 300 := (okM_iff.1 ok).ls
      have HYS := Lib.hid (ysN_all (l := m.ls) (fun z hz => by obtain ⟨j, hj⟩ := List.mem_iff_getElem?.1 hz; exact ok_yarnY ok hj))
      have HOK := Lib.hid ok
      have HPS := Lib.hid hPS
      have HP := Lib.hid hP
      have HX := Lib.hid hx
      have hl0 : P.length = 0 → P.getLast?.getD (-1) = -1 := fun h => by rw [List.length_eq_zero_iff.1 h]; rfl
      have hs0 : S.length = 0 → S.head?.getD (-1) = -1 := fun h => by rw [List.length_eq_zero_iff.1 h]; rfl
      have HL1 := Lib.hid (fun h : 0 < P.length => last_at (T := (kn : Int) :: S) h)
      have HS1 := Lib.hid (fun h : 0 < S.length => head_at (P := P) (k := (kn : Int)) h)
      have HL0 := Lib.hid hl0
      have HS0 := Lib.hid hs0
      clear e0 e1 hnb hN ha ok hPS hP hSS hx hl0 hs0
      generalize P.getLast?.getD (-1) = U0 at *
      generalize S.head?.getD (-1) = U1 at *
      obtain ⟨x0, x1, x2, x3, x4, x5, x6⟩ := CellsAt.seven X2.out.1
      have hnlt : ¬ (kn : Int) < 0 := by omega
      have hnge : (kn : Int) < (m.ls.length : Int) := by omega
      have HYC : yarnC m x.y = 0 := yarnC_ok HOK.out (inB_iff.2 (by omega))
      have hrdD := V2.out.rd
      have HQ1 := Lib.hid (implYarn_any _ m x.y w2.drew (by exact hrdD) HSM.out.fit)
      rw [HYC, okList_yes rfl, HPS.out] at HQ1
      clear HYC
      obtain ⟨bL, oL, z, sL, rfl, hbL, hLz, cL, -⟩ := (RdM.lsY_ hrdD).at_ hkl
      have ez : z = x := by rw [HX.out] at hLz; injection hLz with hLz; exact hLz.symm
      subst ez
      obtain ⟨-, c1L, -⟩ := cL.six
      clear hrdD hLz cL
      have hi0 : (0 : Int) ≤ (kn : Int) := by omega
      have hz2 : X2.out.2.2 = X2.out.2.2 := rfl
      clear hz2 hk0 hk1 h0 h1
      go_wp2
      go_region_held3 (fun w' => w'.cell? ⟨gm, 0, none⟩ = some (.int .i64 m.wd) ∧ w'.cell? ⟨gm, 1, none⟩ = some (.int .i64 m.rk) ∧ w'.cell? ⟨gm, 2, none⟩ = some (.slice A1 m.fr.length c1) ∧ w'.cell? ⟨gm, 3, none⟩ = some (.slice A2 m.bk.length c2) ∧ w'.cell? ⟨gm, 4, none⟩ = some (.slice A3 m.cs.length c3) ∧ w'.cell? ⟨gm, 5, none⟩ = some (.slice (some ⟨bL, oL, none⟩) m.ls.length c4) ∧ w'.cell? ⟨gm, 6, none⟩ = some (.slice A5 m.dr.length c5) ∧ w'.cell? ⟨bL, oL + kn * 6 + 1, none⟩ = some (.int .i64 z.y))
        (first | with_reducible exact ⟨x0, x1, x2, x3, x4, x5, x6, c1L⟩ | with_reducible exact ⟨y0, y1, y2, y3, y4, y5, y6, c1L'⟩ | go_keep)
        (first
          | (go_at_call 15; refine (HQ1.out).mono ?_; rintro e w3 ⟨vy, rfl, hoy, hby⟩; have hby' : Below w2.heap.size w2 w3 := (Below.refl _ w2).drew.trans hby; obtain ⟨y0, y1, y2, y3, y4, y5, y6⟩ := CellsAt.seven (X2.out.below hby' X2.out.2.2).1; have c1L' : w3.cell? ⟨bL, oL + kn * 6 + 1, none⟩ = some (.int .i64 z.y) := (hby'.cell (p := ⟨bL, oL + kn * 6 + 1, none⟩) hbL).trans c1L; obtain ⟨Ay, cy, rfl, -, -⟩ := hoy.cells))
      have V3 := Lib.hid (V2.out.below (Nat.le_refl _) hby')
      have B3 := Lib.hid (B2.out.trans (hby'.mono B2.out.size))
      have X3 := Lib.hid (X2.out.below hby' X2.out.2.2)
      have Y3 := Lib.hid (RdI.of_own hoy)
      have hlenL : (P ++ (kn : Int) :: S).length ≤ 300 := by simp; omega
      clear hoy hby hby' X2 V2 B2 y0 y1 y2 y3 y4 y5 y6 x0 x1 x2 x3 x4 x5 x6 c1L c1L' HQ1
      go_wp2
      go_loopw [10, 11, 12, 13] (fun s c _ _ wr => ∃ (j : Nat) (wq : World), wq = wr ∧ 1 ≤ j ∧ j ≤ 5 ∧ s = .int .i64 (ysN m.ls j : Nat) ∧ c = .int .i64 j ∧ Hid (Below w3.heap.size w3 wq)) (fun _ c _ _ _ => (5 - intOf c).toNat)
      case atStart => exact ⟨1, _, rfl, Nat.le_refl _, by omega, rfl, rfl, Below.refl _ _⟩
      case round =>
        obtain ⟨j, wq, hwq, hj1, hj5, rfl, rfl, HBq⟩ := hrel
        subst hwq
        have Xq := X3.out.below HBq.out X3.out.2.2
        obtain ⟨y0, y1, y2, y3, y4, y5, y6⟩ := CellsAt.seven Xq.1
        have hys := ysN_le m.ls j
        have hys2 : j * m.ls.length ≤ 5 * 300 := Nat.mul_le_mul hj5 hls
        by_cases hj4 : j ≤ 4
        · have hj4i : (j : Int) ≤ 4 := by omega
          have HQ2 := Lib.hid (implYarn_any _ m (j : Int) wq (V3.out.below (Nat.le_refl _) HBq.out).rd HSM.out.fit)
          rw [yarnC_ok HOK.out (inB_iff.2 (by omega)), okList_yes rfl] at HQ2
          have hyl := yarnGo_len (j : Int) m.ls 0
          have HN := Lib.hid (ysN_next (l := m.ls) hj1)
          clear Xq hj4
          go_wp2_with fail
          refine (HQ2.out).mono ?_
          rintro e w5 ⟨vz, rfl, hoz, hbz⟩
          obtain ⟨Az, cz, rfl, -, -⟩ := hoz.cells
          have HB5 := Lib.hid (HBq.out.trans (hbz.mono HBq.out.size))
          clear hoz hbz y0 y1 y2 y3 y4 y5 y6 HQ2
          go_wp2
          refine ⟨⟨j + 1, _, rfl, by omega, by omega, ?_, by go_num, HB5.out⟩, by simp [intOf]; omega⟩
          rw [HN.out]
          go_num
        · have hj : j = 5 := by omega
          subst hj
          rw [HYS.out]
          clear hys hys2 hj4 hj5 hj1 Xq y0 y1 y2 y3 y4 y6
          have HBW := Lib.hid (B3.out.trans (HBq.out.mono B3.out.size))
          have HYq := Lib.hid (fun (k : Nat) hk => RdI.at_ ((Y3.out.below HBq.out).more HBq.out.size) (k := k) hk)
          have hbz0 : P.length = 0 → U0 = -1 := HL0.out
          have hbz1 : S.length = 0 → U1 = -1 := HS0.out
          clear HL0 HS0
          go_wp2
          go_loop [14] (fun i => ∃ t : Nat, t ≤ P.length ∧ i = .int .i64 t) (fun i => (P.length + 1 - (intOf i).toNat))
          case atStart => exact ⟨0, Nat.zero_le _, rfl⟩
          case round =>
            obtain ⟨t, htP, rfl⟩ := hrel
            have hlen2 : (P ++ (kn : Int) :: S).length = P.length + S.length + 1 := by simp; omega
            have htl : t < (P ++ (kn : Int) :: S).length := by omega
            obtain ⟨b1, o1, u, rfl, -, hlu, hc1⟩ := HYq.out t htl
            have hti : (t : Int) < ((P ++ (kn : Int) :: S).length : Int) := by omega
            by_cases hlt : t < P.length
            · have hne : (u != (kn : Int)) = true := by
                rw [List.getElem?_append_left hlt] at hlu
                have := HP.out u (List.mem_of_getElem? hlu)
                simp
                omega
              clear hlu hlen2 htl
              go_wp2
              go_round
              case rel => exact ⟨t + 1, by omega, by go_num⟩
              case measure => simp [intOf]; omega
            · have ht : t = P.length := by omega
              have hu : u = (kn : Int) := by
                rw [List.getElem?_append_right (by omega), ht, Nat.sub_self] at hlu
                injection hlu with hlu
                exact hlu.symm
              rw [hu] at hc1
              subst ht
              clear hlu hu hlt htP htl
              have hll : ((P ++ (kn : Int) :: S).length : Int) = (P.length : Int) + (S.length : Int) + 1 := by omega
              have HLL := Lib.hid hlen2
              have hpb : P.length ≤ 300 := by omega
              have hsb : S.length ≤ 300 := by omega
              clear hlen2
              by_cases hp : 0 < P.length
              · obtain ⟨b2, o2, z1, e2, -, hz1, hc2⟩ := HYq.out (P.length - 1) (by rw [HLL.out]; omega)
                injection e2 with e2
                injection e2 with q1 q2
                subst q1 q2
                rw [HL1.out hp] at hz1
                injection hz1 with hz1
                subst hz1
                have hkc : ((P.length - 1 : Nat) : Int) = (P.length : Int) - 1 := by omega
                have hw1 : IntKind.i64.wrap ((P.length : Int) - 1) = (P.length : Int) - 1 := wrap_sm (by omega) (by omega)
                have hpi : (0 : Int) < (P.length : Int) := by omega
                have hn2 : (P.length : Int) - 1 < ((P ++ (kn : Int) :: S).length : Int) := by omega
                by_cases hq : 0 < S.length
                · obtain ⟨b3, o3, z2, e3, -, hz2, hc3⟩ := HYq.out (P.length + 1) (by rw [HLL.out]; omega)
                  injection e3 with e3
                  injection e3 with q1 q2
                  subst q1 q2
                  rw [HS1.out hq] at hz2
                  injection hz2 with hz2
                  subst hz2
                  have hqi : (P.length : Int) + 1 < ((P ++ (kn : Int) :: S).length : Int) := by omega
                  clear hll hbz0 hbz1
                  go_wp2
                  go_ret
                  exact ⟨ret_bool (by simp), HBW.out⟩
                · obtain rfl : U1 = -1 := hbz1 (by omega)
                  have hqi : ¬ (P.length : Int) + 1 < ((P ++ (kn : Int) :: S).length : Int) := by omega
                  clear hll hbz0 hbz1
                  go_wp2
                  go_ret
                  exact ⟨ret_bool (by simp), HBW.out⟩
              · obtain rfl : U0 = -1 := hbz0 (by omega)
                have hpi : ¬ (0 : Int) < (P.length : Int) := by omega
                by_cases hq : 0 < S.length
                · obtain ⟨b3, o3, z2, e3, -, hz2, hc3⟩ := HYq.out (P.length + 1) (by rw [HLL.out]; omega)
                  injection e3 with e3
                  injection e3 with q1 q2
                  subst q1 q2
                  rw [HS1.out hq] at hz2
                  injection hz2 with hz2
                  subst hz2
                  have hqi : (P.length : Int) + 1 < ((P ++ (kn : Int) :: S).length : Int) := by omega
                  clear hll hbz0 hbz1 hp
                  go_wp2
                  go_ret
                  exact ⟨ret_bool (by simp), HBW.out⟩
                · obtain rfl : U1 = -1 := hbz1 (by omega)
                  have hqi : ¬ (P.length : Int) + 1 < ((P ++ (kn : Int) :: S).length : Int) := by omega
                  clear hll hbz0 hbz1 hp
                  go_wp2
                  go_ret
                  exact ⟨ret_bool (by simp), HBW.out⟩
    · have hne : (askC m k != 0) = true := by simpa using ha
      clear X2 V2
      go_wp2
      go_ret
      exact ⟨rfl, B2.out⟩
set_option maxRecDepth 100000 in
theorem FnYarn.walk {H : Type} {enc : TypeId × Value → H} {base : Nat} {d0 : DataW H} {p0 : List MemPlace} (W : World) (v0 : Value) (o0 : Value.okWide Try.prog W .any base 22 v0)
    (h0 : DataW.Trod enc Try.prog W 0 (fun _ => true) true 22 v0 d0 p0) : Calls Try.prog 3 #[v0] W fun e W' => e = .returned (.bool true) ∧ Below W.heap.size W W' :=
  FnYarn.core v0 W (open_rdB Try.underlying22 Try.underlying5 (by kernel_rfl) o0 h0)

namespace FnYarn
theorem own : ownKnob Try.prog.godebug = none := by kernel_rfl
theorem laidOut : laidOutB Try.prog = true := by kernel_rfl

set_option maxRecDepth 100000 in
theorem lifted (os : Os) (started : os.Started) (H : Type) (enc : TypeId × Value → H) :
    ReturnsInHanded {} Try.checked os 3 .any (Rows.fnYarnSpec.pre6 enc Try.prog Try.f3 Rows.fnYarnRow.domain false) (Rows.fnYarnSpec.post enc Try.prog Try.f3 false true false false) := by
  refine returnsInHanded_of_change (C := Try.checked) own started (by kernel_rfl) Try.func3
    (ChangeSpec.witness6 (enc := enc) (C := Try.checked) false ⟨#[], #[.slice none 0 0], []⟩ 8 (by kernel_rfl) (by kernel_rfl) (by kernel_rfl) (by kernel_rfl)) ?_
  intro W base args ds gs before hval0 hW hcnd _
  have hval : ∀ (j : Nat) t v, Try.f3.params[j]? = some t → args[j]? = some v → Value.okWide Try.prog W .any base t v := hval0
  have hW' := hW
  obtain ⟨p, q, hA0, hV, rfl, hfz, hnd⟩ := hW
  have hA : DataW.TrodAll enc Try.prog W 0 (fun _ => true) true Try.f3.params.toList args.toList ds p := hA0
  rw [Try.params3] at hA hval
  obtain ⟨v0, vs0, d0, ds0, p0, q0, hargs, rfl, rfl, h0, r0⟩ := trodAll_cons hA
  obtain ⟨rfl, rfl, rfl⟩ := trodAll_nil r0
  obtain rfl : args = #[v0] := by cases args; simp_all
  obtain ⟨rfl, rfl⟩ := trodVars_none hV
  have k0 := h0
  have lt0 : ∀ x ∈ p0, x.block < W.heap.size := by obtain ⟨m, hm⟩ := k0; exact DataW.trod_lt m _ _ _ hm
  clear hA0 hval0
  refine (walk W v0 (hval 0 _ v0 rfl rfl) h0).mono fun e W' ⟨he, bel⟩ => ?_
  subst he
  exact ⟨_, rfl, _, _, _, [], _, [], hW', trodAll_mk1 (shut_bool Try.underlying4 _), (trodAll_cons_mk (Below.trod laidOut (by kernel_rfl) (of_decide_eq_true (by kernel_rfl)) k0 bel lt0) trodAll_mk0), rfl, bel.frame _, fun h => by cases h⟩

theorem over : Rows.fnYarnRow.holds Try.pinned (OpenSpec.ofChange Rows.fnYarnSpec) :=
  OpenClaim.holds_of_wide 3 Try.f3 rfl rfl rfl rfl rfl rfl rfl ⟨rfl, rfl, rfl, rfl, rfl⟩ rfl rfl rfl rfl rfl (by kernel_rfl) Try.func3 (by kernel_rfl)
    (of_decide_eq_true (by kernel_rfl)) (by unfold Func.isWrapper; first | (rw [if_pos (by decide +kernel)]; kernel_rfl) | (rw [if_neg (by decide +kernel)]; exact ⟨rfl, rfl⟩))
    (fun os started H enc _ => lifted os started H enc)

theorem proved : Rows.FnYarnSaid := over
end FnYarn

end Go.Proofs.Ytogaellhkjjeaaa
