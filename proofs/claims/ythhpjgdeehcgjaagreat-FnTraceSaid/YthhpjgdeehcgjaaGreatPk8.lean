/-
  Texts joined: DoE, DoF, DoG, DoH.
-/
import Derived.Test.YthhpjgdeehcgjaaGreatPk7
import Derived.Deep.RegionWith
/-
  The reference's l07Move on a machine of its own.
-/
namespace Go.Proofs.YthhpjgdeehcgjaaGreat
set_option linter.unusedVariables false
set_option linter.unusedSimpArgs false
open Go.RowKit

theorem mv8 {m : Mc} {x : Opr} (h : plc x.fb x.fa m.rk ≠ plc x.tb x.ta m.rk) : mvCode m x = 8 := by unfold mvCode; rw [if_pos h]
theorem mv7 {m : Mc} {x : Opr} (h : plc x.fb x.fa m.rk = plc x.tb x.ta m.rk) (h1 : (onL m x.f).length = 0) : mvCode m x = 7 := by unfold mvCode; rw [if_neg (by simpa using h), if_pos h1]
theorem mv5 {m : Mc} {x : Opr} (h : plc x.fb x.fa m.rk = plc x.tb x.ta m.rk) (h1 : ¬ (onL m x.f).length = 0) (h2 : 4 < (onL m x.f).length + (onL m x.t).length) : mvCode m x = 5 := by unfold mvCode; rw [if_neg (by simpa using h), if_neg h1, if_pos h2]
theorem mv0 {m : Mc} {x : Opr} (h : plc x.fb x.fa m.rk = plc x.tb x.ta m.rk) (h1 : ¬ (onL m x.f).length = 0) (h2 : ¬ 4 < (onL m x.f).length + (onL m x.t).length) : mvCode m x = 0 := by unfold mvCode; rw [if_neg (by simpa using h), if_neg h1, if_neg h2]
theorem DidC.bad {w0 w : World} {S0 S : Nat → Spot} {B g : Nat} {code c : Int} {m : Mc} (hm : Mv w0 S0 w S) (he : code = c) (hc : c ≠ 0) : DidC w0 S0 B g code m (.returned (.int .i64 c)) w := ⟨by rw [he], S, hm, fun e => absurd (he.symm.trans e) hc⟩
/-- A machine's list, as it is read. -/
theorem MSt.onR {w : World} {B g : Nat} {m : Mc} {S : Nat → Spot} (h : MSt w B g m S) {n : Int × Int} (hn : ndIn m n) : RdI w w.heap.size (S (iN n)).v (onL m n) ∧ (∃ A c, (S (iN n)).v = .slice A (onL m n).length c ∧ (onL m n).length ≤ c) ∧ w.ownsRow B 2 1 (S (iN n)).v (onL m n).length (vI (onL m n)) := by
  obtain ⟨b, c, L, -, -, -, -, -, -, -, he, -⟩ := h.nd hn
  have h1 := h.sp.own (iN n)
  rw [he] at h1
  have h2 : w.ownsRow B 2 1 (S (iN n)).v (onL m n).length (vI (onL m n)) := h1
  obtain ⟨A, k, q, h3, h4⟩ := (OwC.of_own h2).cap
  obtain ⟨A', c', h5, -⟩ := (OwC.of_own h2).cells
  rw [h5] at h3
  injection h3 with e1 e2 e3
  subst e1 e2 e3
  exact ⟨RdI.of_own (OwC.of_own h2), ⟨_, _, h5, h4⟩, h2⟩

set_option maxHeartbeats 4000000 in
set_option maxRecDepth 100000 in
theorem l07Move_any {w : World} {B g : Nat} {m : Mc} {S : Nat → Spot} (h : MSt w B g m S) (hB : B ≤ w.heap.size) (x : Opr) (b o : Nat) (ho : OpAt w b o x) (hnb : ¬ blk S b) (hf : ndIn m x.f) (ht : ndIn m x.t) (hne : x.fb ≠ x.tb) (hok : OkP m) (hfa : x.fa ≤ 23) (hta : x.ta ≤ 23) :
    Calls Tryz.prog 67 #[.pointer (some ⟨g, 0, none⟩), .pointer (some ⟨b, o, none⟩)] w (DidC w S B g (mvCode m x) (mvTo m x)) := by
  obtain ⟨i0, hi, hz0, hz1, hz2⟩ := info_parts info_int
  obtain ⟨k, d, fb, fa, tb, ta, c, r⟩ := x
  obtain ⟨r0, r1⟩ := hok.rk
  have hl4 := hok.on4 (fb, fa)
  have hl5 := hok.on4 (tb, ta)
  have hfa' : fa ≤ 23 := hfa
  have hta' : ta ≤ 23 := hta
  have hfa0 : 0 ≤ fa := hf.2.1
  have hta0 : 0 ≤ ta := ht.2.1
  obtain ⟨o0, o1, o2, o3, o4, o5, o6, o7⟩ := ho.eight
  have hbw : b < w.heap.size := block_lt_of_cell o0
  have HO := Lib.hid ho
  have HM := Lib.hid h
  have HNB := Lib.hid hnb
  have HQ1 := Lib.hid (l07On_any h (fb, fa) hf)
  have HF := Lib.hid (show ndIn m (fb, fa) from hf)
  have HT := Lib.hid (show ndIn m (tb, ta) from ht)
  have hC8 := Lib.hid (fun h1 => mv8 (m := m) (x := ⟨k, d, fb, fa, tb, ta, c, r⟩) h1)
  have hC7 := Lib.hid (fun h1 h2 => mv7 (m := m) (x := ⟨k, d, fb, fa, tb, ta, c, r⟩) h1 h2)
  have hC5 := Lib.hid (fun h1 h2 h3 => mv5 (m := m) (x := ⟨k, d, fb, fa, tb, ta, c, r⟩) h1 h2 h3)
  have hC0 := Lib.hid (fun h1 h2 h3 => mv0 (m := m) (x := ⟨k, d, fb, fa, tb, ta, c, r⟩) h1 h2 h3)
  have HP1 := Lib.hid (fun X => l07Place_any fb fa m.rk (by omega) (by omega) (by omega) (by omega) X)
  have HP2 := Lib.hid (fun X => l07Place_any tb ta m.rk (by omega) (by omega) (by omega) (by omega) X)
  generalize hCC : mvCode m ⟨k, d, fb, fa, tb, ta, c, r⟩ = CC at *
  have hMV : mvTo m ⟨k, d, fb, fa, tb, ta, c, r⟩ = setL (setL m (tb, ta) (mvL m ⟨k, d, fb, fa, tb, ta, c, r⟩)) (fb, fa) [] := rfl
  have HMV := Lib.hid hMV
  generalize mvTo m ⟨k, d, fb, fa, tb, ta, c, r⟩ = M' at *
  clear h ho hf ht hCC hMV hnb
  go_enter Tryz.func67, Tryz.ntmps67
  go_wp2_with fail
  refine (HQ1.out).mono ?_
  rintro e w1 ⟨rfl, hb1⟩
  have HM1 := Lib.hid (HM.out.below hb1)
  have HO1 := Lib.hid (CellsAt.below HO.out hb1 hbw)
  have HB1 := Lib.hid hb1
  have HQ2 := Lib.hid (l07On_any HM1.out (tb, ta) HT.out)
  have hbw1 : b < w1.heap.size := Nat.lt_of_lt_of_le hbw hb1.size
  have HO0 := Lib.hid HO.out
  clear o0 o1 o2 o3 o4 o5 o6 o7 hb1 HO HQ1
  obtain ⟨o0, o1, o2, o3, o4, o5, o6, o7⟩ := HO1.out.eight
  go_wp2_with fail
  refine (HQ2.out).mono ?_
  rintro e w2 ⟨rfl, hb2⟩
  have HM2 := Lib.hid (HM1.out.below hb2)
  have HO2 := Lib.hid (CellsAt.below HO1.out hb2 hbw1)
  have HB2 := Lib.hid (HB1.out.trans (hb2.mono HB1.out.size))
  have hbw2 : b < w2.heap.size := Nat.lt_of_lt_of_le hbw1 hb2.size
  obtain ⟨-, ⟨Af, cf, hvf, hcf⟩, -⟩ := HM2.out.onR HF.out
  obtain ⟨-, ⟨At, ct, hvt, hct⟩, -⟩ := HM2.out.onR HT.out
  have HVF := Lib.hid hvf
  have HVT := Lib.hid hvt
  rw [hvf, hvt]
  clear o0 o1 o2 o3 o4 o5 o6 o7 hb2 HO1 HM1 HB1 HQ2 hvf hvt
  obtain ⟨-, -, p2, p3, p4, p5, -, -⟩ := HO2.out.grow8
  have x1 : ∀ X, (wgrow w2 X).cell? ⟨g, 1, none⟩ = some (.int .i64 m.rk) := fun X => HM2.out.cells.grow X 1 _ rfl
  generalize hPf : plc fb fa m.rk = Pf at *
  generalize hPt : plc tb ta m.rk = Pt at *
  clear hPf hPt
  go_wp2
  refine wp_region_grow (by kernel_rfl) (by kernel_rfl) ?_
  repeat (go_big_quiet_step ((first | (go_at_call_of 75 (Value.agg #[.int .i64 fb, .int .i64 fa]); exact calls_grow (HP1.out _)) | (go_at_call_of 75 (Value.agg #[.int .i64 tb, .int .i64 ta]); exact calls_grow (HP2.out _)))))
  refine wpQuiet_nil ?_
  intro w3 hb3
  have HM3 := Lib.hid (HM2.out.below hb3)
  have HO3 := Lib.hid (CellsAt.below HO2.out hb3 hbw2)
  have HB3 := Lib.hid (HB2.out.trans (hb3.mono HB2.out.size))
  have hbw3 : b < w3.heap.size := Nat.lt_of_lt_of_le hbw2 hb3.size
  have HMV3 := Lib.hid (Mv.of_below (S := S) HB3.out)
  clear hb3 HO2 HM2 HB2 x1 p2 p3 p4 p5 HP1 HP2
  obtain ⟨o0, o1, o2, o3, o4, o5, o6, o7⟩ := HO3.out.eight
  by_cases hp : Pf = Pt
  · subst hp
    have hpn : (Pf != Pf) = false := by simp
    by_cases h0 : (onL m (fb, fa)).length = 0
    · have hc := Lib.hid (hC7.out rfl h0)
      have h0' : (((onL m (fb, fa)).length : Int) == 0) = true := by rw [h0]; rfl
      clear h0 hC8 hC7 hC5 hC0
      go_wp2
      go_ret
      exact DidC.bad HMV3.out hc.out (by omega)
    · have h0' : (((onL m (fb, fa)).length : Int) == 0) = false := by simpa using h0
      by_cases h4 : 4 < (onL m (fb, fa)).length + (onL m (tb, ta)).length
      · have hc := Lib.hid (hC5.out rfl h0 h4)
        have h4' : (4 : Int) < ((onL m (fb, fa)).length : Int) + ((onL m (tb, ta)).length : Int) := by omega
        clear h0 h4 hC8 hC7 hC5 hC0
        go_wp2
        go_ret
        exact DidC.bad HMV3.out hc.out (by omega)
      · have hc := Lib.hid (hC0.out rfl h0 h4)
        have h4' : ¬ (4 : Int) < ((onL m (fb, fa)).length : Int) + ((onL m (tb, ta)).length : Int) := by omega
        clear h0 h4 hC8 hC7 hC5 hC0
        by_cases hb2 : tb = 2
        · subst hb2
          have HRD := Lib.hid ((HM3.out.onR (n := (2, ta)) HT.out).1)
          have HQO := Lib.hid (l00OwnR_any (.slice Af (onL m (fb, fa)).length cf) (onL m (fb, fa)) w3.drew (by have := (HM3.out.onR (n := (fb, fa)) HF.out).1; rw [HVF.out] at this; exact this) (by omega))
          rw [HVT.out] at HRD
          replace HRD := Lib.hid (HRD.out.reads).1
          go_wp2
          go_region_held3 (fun w' => w'.cell? ⟨b, o + 4, none⟩ = some (.int .i64 2) ∧ w'.cell? ⟨b, o + 5, none⟩ = some (.int .i64 ta))
            (first | exact ⟨o4, o5⟩ | exact ⟨q4, q5⟩ | exact ⟨r4, r5⟩ | exact ⟨t4, t5⟩ | go_keep)
            (first
              | (go_at_call 64; refine (HQO.out).mono ?_; rintro e w4 ⟨v4, rfl, hown4, hb4⟩; have hB4 : Below w3.heap.size w3 w4 := (Below.refl w3.heap.size w3).drew.trans hb4; obtain ⟨-, -, -, -, q4, q5, -, -⟩ := (CellsAt.below HO3.out hB4 hbw3).eight; have hrd4 := HRD.out.below hB4; have hsz4 := hB4.size)
              | (refine step_append_any _ (by rfl) _ _ _ (by rfl) w3.heap.size 2 i0 _ 1 8 Tryz.underlying32 hi hz0 hz1 hz2 rfl (by decide) v4 (onL m (fb, fa)).length (vI (onL m (fb, fa))) (by rfl) hown4 w3.heap.size At (onL m (2, ta)).length ct (vI (onL m (2, ta))) (by rfl) hrd4 (vI_one _) (by unfold maxLen; omega) (by omega) hsz4 ?_; intro v5 w5 hown5 hg5 hat5; have hB5 : Below w3.heap.size w3 w5 := hB4.grown hg5 hsz4 (fun q hq => (World.ownsRow.lt hown4 q hq).1); obtain ⟨-, -, -, -, r4, r5, -, -⟩ := (CellsAt.below HO3.out hB5 hbw3).eight; have hm5 := HM3.out.below hB5; (have hown5' : w5.ownsRow B 2 1 v5 (onL m (fb, fa) ++ onL m (2, ta)).length (vI (onL m (fb, fa) ++ onL m (2, ta))) := by (rw [List.length_append, vI_append]; exact own_base hown5 (Nat.le_trans hB HB3.out.size))); have hnew5 : ∀ q, v5.ownBlock = some q → w3.heap.size ≤ q := fun q hq => (World.ownsRow.lt hown5 q hq).1; have hQS := l07Set_any hm5 (2, ta) HT.out v5 (onL m (fb, fa) ++ onL m (2, ta)) (hm5.sp.putX _ hown5' (fun q hq e => by have := (HM3.out.sp.ge e).2; have := hnew5 q hq; omega)) ((HMV3.out.trans (Mv.of_below hB5)).put _ _ (fun q hq => .inr (Nat.le_trans HB3.out.size (hnew5 q hq)))))
              | (go_at_call 70; refine hQS.mono ?_; rintro e w6 ⟨rfl, S6, hm6, hv6⟩; obtain ⟨-, -, t2, t3, t4, t5, -, -⟩ := (hv6.only.cells HNB.out HO0.out).eight))
          have HM6 := Lib.hid hm6
          have HV6 := Lib.hid hv6
          clear hQS hown5' hnew5 hown5 hg5 hat5 hown4 hb4 hB4 hB5 hrd4 hm5 hm6 hv6 r4 r5 q4 q5
          have hWA : Below w6.heap.size w6 (w6.alloc (.cells #[] 2)) := (Below.refl _ _).alloc (Nat.le_refl _) _
          have hn6 : ndIn (setL m (2, ta) (onL m (fb, fa) ++ onL m (2, ta))) (fb, fa) := ndIn_set _ HF.out
          have HMA := Lib.hid (HM6.out.below hWA)
          have hlit := World.ownsRow_lit (base := w6.heap.size) (e := 2) (size := 1) w6 #[] 0 (Nat.le_refl _) (by unfold maxLen; omega) rfl
          have hBw6 : B ≤ w6.heap.size := Nat.le_trans hB HV6.out.size
          have HQS := Lib.hid (l07Set_any HMA.out (fb, fa) hn6 (.slice (some ⟨w6.heap.size, 0, none⟩) 0 0) [] (HMA.out.sp.putX _ (own_base hlit hBw6) (fun q hq e => by have := (HM6.out.sp.ge e).2; injection hq with hq; have hq' : w6.heap.size = q := hq; omega)) ((HV6.out.alloc _).put _ _ (fun q hq => .inr (by injection hq with hq; have hq' : w6.heap.size = q := hq; have := HV6.out.size; omega))))
          clear hWA hn6 hlit
          go_wp2_with fail
          refine (HQS.out).mono ?_
          rintro e w7 ⟨rfl, S7, hm7, hv7⟩
          have HFIN : Hid (DidC w S B g CC M' (.returned (.int .i64 0)) w7) := ⟨by rw [hc.out], S7, hv7, fun _ => by rw [HMV.out]; exact (by unfold mvL; rw [if_pos rfl]; exact hm7)⟩
          clear hm7 hv7
          go_wp2
          go_ret
          exact HFIN.out
        · have hb2' : (tb == 2) = false := by simpa using hb2
          have HRD := Lib.hid ((HM3.out.onR (n := (fb, fa)) HF.out).1)
          have HQO := Lib.hid (l00OwnR_any (.slice At (onL m (tb, ta)).length ct) (onL m (tb, ta)) w3.drew (by have := (HM3.out.onR (n := (tb, ta)) HT.out).1; rw [HVT.out] at this; exact this) (by omega))
          rw [HVF.out] at HRD
          replace HRD := Lib.hid (HRD.out.reads).1
          have HNB2 := Lib.hid hb2
          clear hb2
          go_wp2
          go_region_held3 (fun w' => w'.cell? ⟨b, o + 4, none⟩ = some (.int .i64 tb) ∧ w'.cell? ⟨b, o + 5, none⟩ = some (.int .i64 ta))
            (first | exact ⟨o4, o5⟩ | exact ⟨q4, q5⟩ | exact ⟨r4, r5⟩ | exact ⟨t4, t5⟩ | go_keep)
            (first
              | (go_at_call 64; refine (HQO.out).mono ?_; rintro e w4 ⟨v4, rfl, hown4, hb4⟩; have hB4 : Below w3.heap.size w3 w4 := (Below.refl w3.heap.size w3).drew.trans hb4; obtain ⟨-, -, -, -, q4, q5, -, -⟩ := (CellsAt.below HO3.out hB4 hbw3).eight; have hrd4 := HRD.out.below hB4; have hsz4 := hB4.size)
              | (refine step_append_any _ (by rfl) _ _ _ (by rfl) w3.heap.size 2 i0 _ 1 8 Tryz.underlying32 hi hz0 hz1 hz2 rfl (by decide) v4 (onL m (tb, ta)).length (vI (onL m (tb, ta))) (by rfl) hown4 w3.heap.size Af (onL m (fb, fa)).length cf (vI (onL m (fb, fa))) (by rfl) hrd4 (vI_one _) (by unfold maxLen; omega) (by omega) hsz4 ?_; intro v5 w5 hown5 hg5 hat5; have hB5 : Below w3.heap.size w3 w5 := hB4.grown hg5 hsz4 (fun q hq => (World.ownsRow.lt hown4 q hq).1); obtain ⟨-, -, -, -, r4, r5, -, -⟩ := (CellsAt.below HO3.out hB5 hbw3).eight; have hm5 := HM3.out.below hB5; (have hown5' : w5.ownsRow B 2 1 v5 (onL m (tb, ta) ++ onL m (fb, fa)).length (vI (onL m (tb, ta) ++ onL m (fb, fa))) := by (rw [List.length_append, vI_append]; exact own_base hown5 (Nat.le_trans hB HB3.out.size))); have hnew5 : ∀ q, v5.ownBlock = some q → w3.heap.size ≤ q := fun q hq => (World.ownsRow.lt hown5 q hq).1; have hQS := l07Set_any hm5 (tb, ta) HT.out v5 (onL m (tb, ta) ++ onL m (fb, fa)) (hm5.sp.putX _ hown5' (fun q hq e => by have := (HM3.out.sp.ge e).2; have := hnew5 q hq; omega)) ((HMV3.out.trans (Mv.of_below hB5)).put _ _ (fun q hq => .inr (Nat.le_trans HB3.out.size (hnew5 q hq)))))
              | (go_at_call 70; refine hQS.mono ?_; rintro e w6 ⟨rfl, S6, hm6, hv6⟩; obtain ⟨-, -, t2, t3, t4, t5, -, -⟩ := (hv6.only.cells HNB.out HO0.out).eight))
          have HM6 := Lib.hid hm6
          have HV6 := Lib.hid hv6
          clear hQS hown5' hnew5 hown5 hg5 hat5 hown4 hb4 hB4 hB5 hrd4 hm5 hm6 hv6 r4 r5 q4 q5
          have hWA : Below w6.heap.size w6 (w6.alloc (.cells #[] 2)) := (Below.refl _ _).alloc (Nat.le_refl _) _
          have hn6 : ndIn (setL m (tb, ta) (onL m (tb, ta) ++ onL m (fb, fa))) (fb, fa) := ndIn_set _ HF.out
          have HMA := Lib.hid (HM6.out.below hWA)
          have hlit := World.ownsRow_lit (base := w6.heap.size) (e := 2) (size := 1) w6 #[] 0 (Nat.le_refl _) (by unfold maxLen; omega) rfl
          have hBw6 : B ≤ w6.heap.size := Nat.le_trans hB HV6.out.size
          have HQS := Lib.hid (l07Set_any HMA.out (fb, fa) hn6 (.slice (some ⟨w6.heap.size, 0, none⟩) 0 0) [] (HMA.out.sp.putX _ (own_base hlit hBw6) (fun q hq e => by have := (HM6.out.sp.ge e).2; injection hq with hq; have hq' : w6.heap.size = q := hq; omega)) ((HV6.out.alloc _).put _ _ (fun q hq => .inr (by injection hq with hq; have hq' : w6.heap.size = q := hq; have := HV6.out.size; omega))))
          clear hWA hn6 hlit
          go_wp2_with fail
          refine (HQS.out).mono ?_
          rintro e w7 ⟨rfl, S7, hm7, hv7⟩
          have HFIN : Hid (DidC w S B g CC M' (.returned (.int .i64 0)) w7) := ⟨by rw [hc.out], S7, hv7, fun _ => by rw [HMV.out]; exact (by unfold mvL; rw [if_neg HNB2.out]; exact hm7)⟩
          clear hm7 hv7
          go_wp2
          go_ret
          exact HFIN.out
  · have hc := Lib.hid (hC8.out hp)
    have hpn : (Pf != Pt) = true := by simpa using hp
    clear hp hC8 hC7 hC5 hC0
    go_wp2
    go_ret
    exact DidC.bad HMV3.out hc.out (by omega)

end Go.Proofs.YthhpjgdeehcgjaaGreat

/-
  The reference's l07Form on a machine of its own.
-/
namespace Go.Proofs.YthhpjgdeehcgjaaGreat
set_option linter.unusedVariables false
set_option linter.unusedSimpArgs false
open Go.RowKit

/-- A row of one number, just made. -/
theorem lit1 (w : World) (n : Int) : (w.alloc (.cells #[.int .i64 n] 2)).ownsRow w.heap.size 2 1 (.slice (some ⟨w.heap.size, 0, none⟩) 1 1) ([n] : List Int).length (vI [n]) := World.ownsRow_lit (base := w.heap.size) (e := 2) (size := 1) w #[.int .i64 n] 1 (Nat.le_refl _) (by unfold maxLen; omega) rfl
/-- A needle gets a row of one number. -/
theorem set_lit1 {w w0 : World} {B g : Nat} {m : Mc} {S S0 : Nat → Spot} (h : MSt w B g m S) (hm : Mv w0 S0 w S) (hB : B ≤ w.heap.size) (n : Int × Int) (hn : ndIn m n) (k : Int) :
    Calls Tryz.prog 70 #[.pointer (some ⟨g, 0, none⟩), .agg #[.int .i64 n.1, .int .i64 n.2], .slice (some ⟨w.heap.size, 0, none⟩) 1 1] (w.alloc (.cells #[.int .i64 k] 2)) (Did w0 S0 B g (.tuple #[]) (setL m n [k])) := by
  have hWA : Below w.heap.size w (w.alloc (.cells #[.int .i64 k] 2)) := (Below.refl _ _).alloc (Nat.le_refl _) _
  have hMA := h.below hWA
  have hq : ∀ q, (Value.slice (some ⟨w.heap.size, 0, none⟩) 1 1).ownBlock = some q → w.heap.size = q := fun q hq => by injection hq
  exact l07Set_any hMA n hn _ [k] (hMA.sp.putX _ (own_base (lit1 w k) hB) (fun q hq' e => by have := (h.sp.ge e).2; have := hq q hq'; omega)) ((hm.alloc _).put _ _ (fun q hq' => .inr (by have := hm.size; have := hq q hq'; omega)))
theorem lit0 (w : World) : (w.alloc (.cells #[] 2)).ownsRow w.heap.size 2 1 (.slice (some ⟨w.heap.size, 0, none⟩) 0 0) ([] : List Int).length (vI []) := World.ownsRow_lit (base := w.heap.size) (e := 2) (size := 1) w #[] 0 (Nat.le_refl _) (by unfold maxLen; omega) rfl
/-- A needle is emptied. -/
theorem set_lit0 {w w0 : World} {B g : Nat} {m : Mc} {S S0 : Nat → Spot} (h : MSt w B g m S) (hm : Mv w0 S0 w S) (hB : B ≤ w.heap.size) (n : Int × Int) (hn : ndIn m n) :
    Calls Tryz.prog 70 #[.pointer (some ⟨g, 0, none⟩), .agg #[.int .i64 n.1, .int .i64 n.2], .slice (some ⟨w.heap.size, 0, none⟩) 0 0] (w.alloc (.cells #[] 2)) (Did w0 S0 B g (.tuple #[]) (setL m n [])) := by
  have hWA : Below w.heap.size w (w.alloc (.cells #[] 2)) := (Below.refl _ _).alloc (Nat.le_refl _) _
  have hMA := h.below hWA
  have hq : ∀ q, (Value.slice (some ⟨w.heap.size, 0, none⟩) 0 0).ownBlock = some q → w.heap.size = q := fun q hq => by injection hq
  exact l07Set_any hMA n hn _ [] (hMA.sp.putX _ (own_base (lit0 w) hB) (fun q hq' e => by have := (h.sp.ge e).2; have := hq q hq'; omega)) ((hm.alloc _).put _ _ (fun q hq' => .inr (by have := hm.size; have := hq q hq'; omega)))
/-- A needle gets a row that is none of the rows. -/
theorem set_row {w w0 : World} {B g : Nat} {m : Mc} {S S0 : Nat → Spot} (h : MSt w B g m S) (hm : Mv w0 S0 w S) (n : Int × Int) (hn : ndIn m n) (v : Value) (l : List Int) (ho : w.ownsRow B 2 1 v l.length (vI l)) (hnew : ∀ q, v.ownBlock = some q → ¬ blk S q ∧ w0.heap.size ≤ q) :
    Calls Tryz.prog 70 #[.pointer (some ⟨g, 0, none⟩), .agg #[.int .i64 n.1, .int .i64 n.2], v] w (Did w0 S0 B g (.tuple #[]) (setL m n l)) :=
  l07Set_any h n hn v l (h.sp.putX _ ho (fun q hq => (hnew q hq).1)) (hm.put _ _ (fun q hq => .inr (hnew q hq).2))

theorem fm9 {m : Mc} {x : Opr} (h : carOk m x = false) : fmCode m x = 9 := by unfold fmCode; rw [if_pos h]
theorem fm5 {m : Mc} {x : Opr} (h : carOk m x = true) (h1 : 300 ≤ m.ls.length) : fmCode m x = 5 := by unfold fmCode; rw [if_neg (by rw [h]; decide), if_pos h1]
theorem fm1 {m : Mc} {x : Opr} (h : carOk m x = true) (h1 : ¬ 300 ≤ m.ls.length) (hk : x.k = 1) : fmCode m x = 0 := by unfold fmCode; rw [if_neg (by rw [h]; decide), if_neg h1, if_pos hk]
theorem fm25 {m : Mc} {x : Opr} (h : carOk m x = true) (h1 : ¬ 300 ≤ m.ls.length) (hk : x.k = 2) (h4 : 4 ≤ (onL m x.f).length) : fmCode m x = 5 := by unfold fmCode; rw [if_neg (by rw [h]; decide), if_neg h1, if_neg (by omega), if_pos hk, if_pos h4]
theorem fm2 {m : Mc} {x : Opr} (h : carOk m x = true) (h1 : ¬ 300 ≤ m.ls.length) (hk : x.k = 2) (h4 : ¬ 4 ≤ (onL m x.f).length) : fmCode m x = 0 := by unfold fmCode; rw [if_neg (by rw [h]; decide), if_neg h1, if_neg (by omega), if_pos hk, if_neg h4]
theorem fmX {m : Mc} {x : Opr} (h : carOk m x = true) (h1 : ¬ 300 ≤ m.ls.length) (hk : x.k = 5) : fmCode m x = mvCode m x := by unfold fmCode; rw [if_neg (by rw [h]; decide), if_neg h1, if_neg (by omega), if_neg (by omega)]
theorem fmTo1 {m : Mc} {x : Opr} (hk : x.k = 1) : fmTo m x = setL (addLp (carTo m x) x (onL m x.f)) x.f [(m.ls.length : Int)] := by unfold fmTo; rw [if_pos hk]
theorem fmTo2 {m : Mc} {x : Opr} (hk : x.k = 2) : fmTo m x = setL (addLp (carTo m x) x []) x.f (onL m x.f ++ [(m.ls.length : Int)]) := by unfold fmTo; rw [if_neg (by omega), if_pos hk]
theorem fmTo5 {m : Mc} {x : Opr} (hk : x.k = 5) : fmTo m x = setL (addLp (mvTo (carTo m x) x) x (onL m x.f)) x.f [(m.ls.length : Int)] := by unfold fmTo; rw [if_neg (by omega), if_neg (by omega)]

set_option maxHeartbeats 4000000 in
set_option maxRecDepth 100000 in
theorem l07Form_any {w : World} {B g : Nat} {m : Mc} {S : Nat → Spot} (h : MSt w B g m S) (hB : B ≤ w.heap.size) (x : Opr) (b o : Nat) (ho : OpAt w b o x) (hnb : ¬ blk S b) (hok : OkP m) (hk : x.k = 1 ∨ x.k = 2 ∨ x.k = 5) (hc : 1 ≤ x.c ∧ x.c ≤ 4) (hf : ndIn m x.f) (hfa : x.fa ≤ 23)
    (ht : x.k = 5 → ndIn m x.t ∧ x.fb ≠ x.tb ∧ x.ta ≤ 23) :
    Calls Tryz.prog 65 #[.pointer (some ⟨g, 0, none⟩), .pointer (some ⟨b, o, none⟩)] w (DidC w S B g (fmCode m x) (fmTo m x)) := by
  obtain ⟨i0, hi, hz0, hz1, hz2⟩ := info_parts info_int
  have hl4 := hok.on4 x.f
  obtain ⟨o0, o1, o2, o3, o4, o5, o6, o7⟩ := ho.eight
  have hbw : b < w.heap.size := block_lt_of_cell o0
  have HO := Lib.hid ho
  have HNB := Lib.hid hnb
  have HF := Lib.hid hf
  have HQ := Lib.hid (l07Carry_any h x b o ho hnb hc hok.cs ⟨hf.2.1, hfa⟩ hok.rk)
  have HOK := Lib.hid hok
  have H9 := Lib.hid (fun h => fm9 (m := m) (x := x) h)
  have H5 := Lib.hid (fun h h1 => fm5 (m := m) (x := x) h h1)
  have H1 := Lib.hid (fun h h1 h2 => fm1 (m := m) (x := x) h h1 h2)
  have H25 := Lib.hid (fun h h1 h2 h3 => fm25 (m := m) (x := x) h h1 h2 h3)
  have H2 := Lib.hid (fun h h1 h2 h3 => fm2 (m := m) (x := x) h h1 h2 h3)
  have HX := Lib.hid (fun h h1 h2 => fmX (m := m) (x := x) h h1 h2)
  have HT1 := Lib.hid (fun h => fmTo1 (m := m) (x := x) h)
  have HT2 := Lib.hid (fun h => fmTo2 (m := m) (x := x) h)
  have HT5 := Lib.hid (fun h => fmTo5 (m := m) (x := x) h)
  have HT := Lib.hid ht
  generalize fmCode m x = CC at *
  generalize fmTo m x = M' at *
  clear ho hf hnb hok ht
  cases hco : carOk m x
  · have HC := Lib.hid hco
    clear hco
    go_enter Tryz.func65, Tryz.ntmps65
    go_wp2_with fail
    refine (HQ.out).mono ?_
    rintro e w1 ⟨rfl, S1, hm1, hv1⟩
    rw [HC.out]
    have HV1 := Lib.hid hv1
    clear hm1 hv1 o0 o1 o2 o3 o4 o5 o6 o7
    go_wp2
    go_ret
    exact DidC.bad HV1.out (H9.out HC.out) (by omega)
  · have HC := Lib.hid hco
    clear hco
    go_enter Tryz.func65, Tryz.ntmps65
    go_wp2_with fail
    refine (HQ.out).mono ?_
    rintro e w1 ⟨rfl, S1, hm1, hv1⟩
    rw [HC.out]
    rw [carIf_yes HC.out] at hm1
    have HV1 := Lib.hid hv1
    have HM1 := Lib.hid hm1
    have HNB1 := Lib.hid (hv1.nblk HNB.out hbw)
    have HO1 : Hid (OpAt w1 b o x) := hv1.only.cells HNB.out HO.out
    have hbw1 : b < w1.heap.size := Nat.lt_of_lt_of_le hbw hv1.size
    have hB1 : B ≤ w1.heap.size := Nat.le_trans hB hv1.size
    obtain ⟨A4, c4, hv4⟩ : ∃ A c, (S1 4).v = .slice A m.ls.length c := by
      obtain ⟨xs, e4, hown4⟩ := hm1.rowL
      obtain ⟨A, c, h1, -⟩ := (OwC.of_own hown4).cells
      exact ⟨A, c, h1⟩
    have x5 : w1.cell? ⟨g, 5, none⟩ = some (.slice A4 m.ls.length c4) := by rw [← hv4]; exact hm1.cells.seven.2.2.2.2.2.1
    clear hm1 hv1 o0 o1 o2 o3 o4 o5 o6 o7 hv4
    obtain ⟨o0, o1, o2, o3, o4, o5, o6, o7⟩ := HO1.out.eight
    by_cases h300 : 300 ≤ m.ls.length
    · have hc5 := Lib.hid (H5.out HC.out h300)
      have h3' : (300 : Int) ≤ (m.ls.length : Int) := by omega
      clear h300
      go_wp2
      go_ret
      exact DidC.bad HV1.out hc5.out (by omega)
    have h3' : ¬ (300 : Int) ≤ (m.ls.length : Int) := by omega
    have HQ2 := Lib.hid (l07On_any HM1.out x.f HF.out)
    have H300 := Lib.hid h300
    clear h300
    go_wp2_with fail
    refine (HQ2.out).mono ?_
    rintro e w2 ⟨rfl, hb2⟩
    have HM2 := Lib.hid (HM1.out.below hb2)
    have HV2 := Lib.hid (HV1.out.below_ hb2)
    have HO2 : Hid (OpAt w2 b o x) := CellsAt.below HO1.out hb2 hbw1
    have hB2 : B ≤ w2.heap.size := Nat.le_trans hB1 hb2.size
    have hbw2 : b < w2.heap.size := Nat.lt_of_lt_of_le hbw1 hb2.size
    obtain ⟨hrd, ⟨Af, cf, hvf, hcf⟩, -⟩ := HM2.out.onR (n := x.f) HF.out
    have HQ3 := Lib.hid (l00OwnR_any _ (onL m x.f) w2 hrd (by omega))
    rw [hvf] at HQ3
    rw [hvf]
    clear o0 o1 o2 o3 o4 o5 o6 o7 x5 hb2 hrd hvf HQ2 HO1
    go_wp2_with fail
    refine (HQ3.out).mono ?_
    rintro e w3 ⟨v3, rfl, hown3, hb3⟩
    obtain ⟨A3, c3, rfl⟩ : ∃ A c, v3 = .slice A (onL m x.f).length c := by
      obtain ⟨A, c, h1, -⟩ := (OwC.of_own hown3).cells
      exact ⟨A, c, h1⟩
    have HM3 := Lib.hid (HM2.out.below hb3)
    have HV3 := Lib.hid (HV2.out.below_ hb3)
    have HO3 : Hid (OpAt w3 b o x) := CellsAt.below HO2.out hb3 hbw2
    have hB3 : B ≤ w3.heap.size := Nat.le_trans hB2 hb3.size
    have hz3 : w2.heap.size ≤ w3.heap.size := hb3.size
    have HOW3 := Lib.hid hown3
    have HNEW := Lib.hid (fun q hq => (World.ownsRow.lt hown3 q hq).1)
    have HRD3 := Lib.hid (RdI.of_own (OwC.of_own hown3))
    clear hown3 hb3 HO2 HQ3
    obtain ⟨o0, o1, o2, o3, o4, o5, o6, o7⟩ := HO3.out.eight
    rcases hk with hk | hk | hk
    · have hc0 := Lib.hid (H1.out HC.out H300.out hk)
      have HQM := Lib.hid (l07Make_any HM3.out.drew hB3 x b o HO3.out HNB1.out _ (onL m x.f) HRD3.out hl4 (by have := H300.out; show m.ls.length < 300; omega))
      rw [hk] at o0
      go_wp2
      go_region_held3 (fun w' => w'.cell? ⟨b, o + 2, none⟩ = some (.int .i64 x.fb) ∧ w'.cell? ⟨b, o + 3, none⟩ = some (.int .i64 x.fa))
        (first | exact ⟨o2, o3⟩ | exact ⟨t2, t3⟩ | exact ⟨r2, r3⟩ | exact ⟨u2, u3⟩ | go_keep)
        (first
          | (go_at_call 94; refine (HQM.out).mono ?_; rintro e w4 ⟨rfl, S4, hm4, hv4⟩; have hv4' := HV3.out.drew.trans hv4; obtain ⟨-, -, t2, t3, -, -, -, -⟩ := (hv4'.only.cells HNB.out HO.out).eight; have hB4 := Nat.le_trans hB hv4'.size; have hqs := set_lit1 hm4 hv4' hB4 x.f HF.out ((carTo m x).ls.length : Int))
          | (go_at_call 70; refine hqs.mono ?_; rintro e w5 ⟨rfl, S5, hm5, hv5⟩; obtain ⟨-, -, u2, u3, -, -, -, -⟩ := (hv5.only.cells HNB.out HO.out).eight))
      have HFIN : Hid (DidC w S B g CC M' (.returned (.int .i64 0)) w5) := ⟨by rw [hc0.out], S5, hv5, fun _ => by rw [HT1.out hk]; exact hm5⟩
      clear hm5 hv5 hqs hm4 hv4 hv4' t2 t3 u2 u3
      go_wp2
      go_ret
      exact HFIN.out
    · by_cases h4 : 4 ≤ (onL m x.f).length
      · have hc5 := Lib.hid (H25.out HC.out H300.out hk h4)
        have h4' : (4 : Int) ≤ ((onL m x.f).length : Int) := by omega
        rw [hk] at o0
        clear h4
        go_wp2
        go_ret
        exact DidC.bad HV3.out hc5.out (by omega)
      · have hc0 := Lib.hid (H2.out HC.out H300.out hk h4)
        have h4' : ¬ (4 : Int) ≤ ((onL m x.f).length : Int) := by omega
        have HQM := Lib.hid (l07Make_any HM3.out.drew hB3 x b o HO3.out HNB1.out (.slice none 0 0) [] ⟨none, 0, 0, rfl, by omega, rfl, fun k hk => absurd hk (by omega)⟩ (by simp) (by have := H300.out; show m.ls.length < 300; omega))
        rw [hk] at o0
        go_wp2
        go_region_held3 (fun w' => w'.cell? ⟨b, o + 2, none⟩ = some (.int .i64 x.fb) ∧ w'.cell? ⟨b, o + 3, none⟩ = some (.int .i64 x.fa))
          (first | exact ⟨o2, o3⟩ | exact ⟨t2, t3⟩ | exact ⟨r2, r3⟩ | exact ⟨u2, u3⟩ | go_keep)
          (first
            | (go_at_call 94; refine (HQM.out).mono ?_; rintro e w4 ⟨rfl, S4, hm4, hv4⟩; have hv4' := HV3.out.drew.trans hv4; obtain ⟨-, -, t2, t3, -, -, -, -⟩ := (hv4'.only.cells HNB.out HO.out).eight; have hB4 := Nat.le_trans hB hv4'.size; have hown4 := hv4.only.own (show (w3.drew).ownsRow w2.heap.size 2 1 (.slice A3 (onL m x.f).length c3) (onL m x.f).length (vI (onL m x.f)) from HOW3.out) (fun q hq e => by have := (HM2.out.sp.ge e).2; have := HNEW.out q hq; omega); have hz4 : w2.heap.size ≤ w4.heap.size := Nat.le_trans hz3 hv4.size)
            | (refine step_append_lies _ (by rfl) _ _ _ (by rfl) w2.heap.size 2 i0 _ 1 8 Tryz.underlying32 hi hz0 hz1 hz2 rfl (by omega) (.slice A3 (onL m x.f).length c3) (onL m x.f).length (vI (onL m x.f)) (by rfl) (hown4.alloc _) ⟨w4.heap.size, 0, none⟩ 1 1 [.int .i64 ((carTo m x).ls.length : Int)] (by rfl) (by rfl) (World.news_of_block (cs := #[.int .i64 ((carTo m x).ls.length : Int)]) (t := 2) (fr := (0, 0)) (heap_alloc_new w4 _)) (by simp [Value.oneCell']) (by omega) (by unfold maxLen; omega) (by omega) (by simp; omega) (w4.heap.size + 1) (by simp) ?_; intro gg cap w5 hown5 hgrow5 hat5 hlt5; have hnb4 : ∀ q, (Value.slice A3 (onL m x.f).length c3).ownBlock = some q → ¬ blk S4 q := fun q hq e => (hv4.nblk (S := S1) (fun e' => by have := (HM2.out.sp.ge e').2; have := HNEW.out q hq; omega) (by have := (World.ownsRow.lt HOW3.out q hq).2; exact this)) e; have hWA : Below w4.heap.size w4 (w4.alloc (.cells #[.int .i64 ((carTo m x).ls.length : Int)] 2)) := (Below.refl _ _).alloc (Nat.le_refl _) _; have hm5 := (hm4.below hWA).keep (w' := w5) (fun j q hq => hgrow5.block q (by have := (hm4.sp.ge ⟨j, hq⟩).2; simp; omega) (fun e => hnb4 q e.symm ⟨j, hq⟩)); have hv5 : Mv w S w5 S4 := ⟨(hv4'.only.trans (OnlyT.of_below hWA)).grown hgrow5 (fun q hq => .inr (by have := HNEW.out q hq; have := HV2.out.size; omega)), hv4'.new⟩; obtain ⟨-, -, r2, r3, -, -, -, -⟩ := (hv5.only.cells HNB.out HO.out).eight; have hnew5 : ∀ q, (Value.slice (some ⟨gg, 0, none⟩) ((onL m x.f).length + 1) cap).ownBlock = some q → ¬ blk S4 q ∧ w.heap.size ≤ q := fun q hq => (by injection hq with hq; have hq' : gg = q := hq; subst hq'; rcases hat5 with h9 | h9; exact ⟨hnb4 _ h9, by have := HNEW.out _ h9; have := HV2.out.size; omega⟩; exact ⟨fun e => by have := (hm4.sp.ge e).2; omega, by have := hv4'.size; omega⟩); have hqs := set_row hm5 hv5 x.f HF.out _ (onL m x.f ++ [(m.ls.length : Int)]) (by (rw [List.length_append, vI_append]; exact own_base hown5 (Nat.le_trans hB HV2.out.size))) hnew5)
            | (go_at_call 70; refine hqs.mono ?_; rintro e w6 ⟨rfl, S6, hm6, hv6⟩; obtain ⟨-, -, u2, u3, -, -, -, -⟩ := (hv6.only.cells HNB.out HO.out).eight))
        have HFIN : Hid (DidC w S B g CC M' (.returned (.int .i64 0)) w6) := ⟨by rw [hc0.out], S6, hv6, fun _ => by rw [HT2.out hk]; exact hm6⟩
        clear hm6 hv6 hqs hm5 hv5 hm4 hv4 hv4' t2 t3 u2 u3 r2 r3 hown4 hown5 hgrow5 hnb4 hnew5
        go_wp2
        go_ret
        exact HFIN.out
    · have hT5 := HT.out hk
      have hneb : x.fb ≠ x.tb := hT5.2.1
      have HQV := Lib.hid (l07Move_any HM3.out hB3 x b o HO3.out HNB1.out HF.out hT5.1 hT5.2.1 (HOK.out.carTo HC.out HF.out.2.1 (by have h1 : x.fa.toNat < m.fr.length := HF.out.2.2.1; have h2 := HOK.out.fr; have h3 : 0 ≤ x.fa := HF.out.2.1; omega)) hfa hT5.2.2)
      have hcx := Lib.hid (show CC = mvCode (carTo m x) x from HX.out HC.out H300.out hk)
      have HZ := Lib.hid (fun h => mvCode_zero (m := carTo m x) (o := x) h)
      generalize mvCode (carTo m x) x = MC at *
      rw [hk] at o0
      clear hT5 hneb
      go_wp2_with fail
      refine (HQV.out).mono ?_
      rintro e w5 ⟨rfl, S5, hv5, hm5⟩
      have HV5 := Lib.hid (HV3.out.trans hv5)
      have HO5 : Hid (OpAt w5 b o x) := HV5.out.only.cells HNB.out HO.out
      have HOW5 := Lib.hid (hv5.only.own HOW3.out (fun q hq e => by have := (HM2.out.sp.ge e).2; have := HNEW.out q hq; omega))
      have hB5 : B ≤ w5.heap.size := Nat.le_trans hB HV5.out.size
      have HNB5 := Lib.hid (HV5.out.nblk HNB.out hbw)
      clear hv5 HQV o0 o1 o2 o3 o4 o5 o6 o7
      obtain ⟨o0, o1, o2, o3, o4, o5, o6, o7⟩ := HO5.out.eight
      by_cases hmc : MC = 0
      · subst hmc
        have hm5' := hm5 rfl
        have hc0 := Lib.hid (show CC = 0 from hcx.out)
        have hn5 : ndIn (mvTo (carTo m x) x) x.f := ndIn_set _ (ndIn_set _ HF.out)
        have hls5 : (mvTo (carTo m x) x).ls.length = m.ls.length := by unfold mvTo; rw [(setL_fr _ _ _).2.2.2.2.2.1, (setL_fr _ _ _).2.2.2.2.2.1]; rfl
        have HQM := Lib.hid (l07Make_any hm5'.drew hB5 x b o HO5.out HNB5.out _ (onL m x.f) (RdI.of_own (OwC.of_own HOW5.out)) hl4 (by have := H300.out; omega))
        clear hm5 hm5'
        go_wp2
        go_region_held3 (fun w' => w'.cell? ⟨b, o + 2, none⟩ = some (.int .i64 x.fb) ∧ w'.cell? ⟨b, o + 3, none⟩ = some (.int .i64 x.fa))
          (first | exact ⟨o2, o3⟩ | exact ⟨t2, t3⟩ | exact ⟨r2, r3⟩ | exact ⟨u2, u3⟩ | go_keep)
          (first
            | (go_at_call 94; refine (HQM.out).mono ?_; rintro e w4 ⟨rfl, S4, hm4, hv4⟩; have hv4' := HV5.out.drew.trans hv4; obtain ⟨-, -, t2, t3, -, -, -, -⟩ := (hv4'.only.cells HNB.out HO.out).eight; have hB4 := Nat.le_trans hB hv4'.size; have hqs := set_lit1 hm4 hv4' hB4 x.f hn5 (m.ls.length : Int))
            | (go_at_call 70; refine hqs.mono ?_; rintro e w5 ⟨rfl, S5, hm5, hv5⟩; obtain ⟨-, -, u2, u3, -, -, -, -⟩ := (hv5.only.cells HNB.out HO.out).eight))
        have HFIN : Hid (DidC w S B g CC M' (.returned (.int .i64 0)) w5) := ⟨by rw [hc0.out], S5, hv5, fun _ => by rw [HT5.out hk]; exact hm5⟩
        clear hm5 hv5 hqs hm4 hv4 hv4' t2 t3 u2 u3
        go_wp2
        go_ret
        exact HFIN.out
      · have hmn : (MC != 0) = true := by simpa using hmc
        have HMC := Lib.hid hmc
        clear hmc hm5
        go_wp2
        go_ret
        exact DidC.bad HV5.out hcx.out HMC.out

end Go.Proofs.YthhpjgdeehcgjaaGreat

/-
  The reference's l07Do on a machine of its own: one operation.
-/
namespace Go.Proofs.YthhpjgdeehcgjaaGreat
set_option linter.unusedVariables false
set_option linter.unusedSimpArgs false
open Go.RowKit

theorem nodup_len : ∀ (n : Nat) (l : List Int), l.Nodup → (∀ x ∈ l, 0 ≤ x ∧ x < n) → l.length ≤ n
  | 0, l, _, h => by
    cases l with
    | nil => simp
    | cons a t => have := h a (by simp); omega
  | n + 1, l, hn, h => by
    have h1 := nodup_len n (l.filter fun x => decide (x ≠ (n : Int))) (hn.sublist List.filter_sublist) (fun x hx => by
      obtain ⟨h2, h3⟩ := List.mem_filter.1 hx
      have := h x h2
      simp at h3
      omega)
    have h2 := List.length_eq_countP_add_countP (fun x : Int => decide (x ≠ (n : Int))) (l := l)
    have h3 : List.countP (fun x : Int => decide ¬ (decide (x ≠ (n : Int))) = true) l ≤ 1 := by
      have e : (fun x : Int => decide ¬ (decide (x ≠ (n : Int))) = true) = (fun x : Int => x == (n : Int)) := by
        funext x
        by_cases e : x = (n : Int) <;> simp [e]
      rw [e]
      exact List.nodup_iff_count.1 hn (n : Int)
    rw [← List.countP_eq_length_filter] at h1
    omega
theorem OkP.drlen {m : Mc} (h : OkP m) : m.dr.length ≤ 300 := by
  have h1 : m.dr.Nodup := (List.nodup_append.1 (List.nodup_append.1 h.nd).2.1).2.1
  have h2 := nodup_len m.ls.length m.dr h1 (fun x hx => h.rng x (List.mem_append_right _ (List.mem_append_right _ hx)))
  have := h.ls
  omega
theorem putAll_take {l ns : List Int} {k : Nat} {y : Int} (hy : ns[k]? = some y) : putAll l (ns.take (k + 1)) = putI (putAll l (ns.take k)) y := by
  unfold putAll
  rw [List.take_add_one, hy]
  simp

theorem do125 {m : Mc} {x : Opr} (h : x.k = 1 ∨ x.k = 2 ∨ x.k = 5) : doCode m x = fmCode m x ∧ doTo m x = fmTo m x := by unfold doCode doTo; rw [if_pos h, if_pos h]; exact ⟨rfl, rfl⟩
theorem do3 {m : Mc} {x : Opr} (h : x.k = 3) : doCode m x = (if carOk m x = false then 9 else 0) ∧ doTo m x = carTo m x := by unfold doCode doTo; simp [h]
theorem do4 {m : Mc} {x : Opr} (h : x.k = 4) : doCode m x = mvCode m x ∧ doTo m x = mvTo m x := by unfold doCode doTo; simp [h]
theorem do6 {m : Mc} {x : Opr} (h : x.k = 6) : doCode m x = (if (onL m x.f).length = 0 then 7 else 0) ∧ doTo m x = setL { m with dr := putAll m.dr (onL m x.f) } x.f [] := by unfold doCode doTo; simp [h]
theorem do7 {m : Mc} {x : Opr} (h : x.k = 7) : doCode m x = 0 ∧ doTo m x = { m with rk := x.r } := by unfold doCode doTo; simp [h]
theorem do89 {m : Mc} {x : Opr} (h : x.k = 8 ∨ x.k = 9) : doCode m x = inC m x ∧ doTo m x = inM m x := by rcases h with h | h <;> (unfold doCode doTo inC inM; simp [h])
theorem DidC.of {w0 w : World} {S0 : Nat → Spot} {B g : Nat} {c : Int} {m : Mc} {e : Ending} (h : DidC w0 S0 B g c m e w) {c' : Int} {m' : Mc} (hc : c' = c) (hm : m' = m) : DidC w0 S0 B g c' m' e w := by rw [hc, hm]; exact h

@[go_sem] def ldDo : Oper := { dst := some 53, op := Op.load 32 (Operand.tmp 52), type := 32, pos := "l07_machine.go:334", after := #[{ on := 3, ground := Ground.data }], guard := none }
set_option maxHeartbeats 4000000 in
set_option maxRecDepth 100000 in
theorem l07Do_any {w : World} {B g : Nat} {m : Mc} {S : Nat → Spot} (h : MSt w B g m S) (hB : B ≤ w.heap.size) (x : Opr) (b o : Nat) (ho : OpAt w b o x) (hnb : ¬ blk S b) (ok : okM m = true) (hop : okOpW m.wd x = true) :
    Calls Tryz.prog 31 #[.pointer (some ⟨g, 0, none⟩), .pointer (some ⟨b, o, none⟩)] w (DidC w S B g (doCode m x) (doTo m x)) := by
  obtain ⟨i0, hi, hz0, hz1, hz2⟩ := info_parts info_int
  have hok := okM_iff.1 ok
  obtain ⟨h0, hfw, htw⟩ := okOpW_iff.1 hop
  have hwd := hok.wd
  obtain ⟨o0, o1, o2, o3, o4, o5, o6, o7⟩ := ho.eight
  have hbw : b < w.heap.size := block_lt_of_cell o0
  have HO := Lib.hid ho
  have HNB := Lib.hid hnb
  have HM := Lib.hid h
  have HOK := Lib.hid hok
  have hkinds := okOp_kinds h0
  clear h ho hnb ok hop h0
  rcases hkinds with ⟨hk, hd, hf, c1, c4, htb, hta, hr⟩ | ⟨hk, hf, ht, hne, hd, hcc, hr⟩ | ⟨hk, hf, ht, hne, hd, c1, c4, hr⟩ | ⟨hk, hf, hd, htb, hta, hcc, hr⟩ | ⟨hk, hr1, hr2, _⟩ | ⟨hk, hd, c1, c4, _⟩ | ⟨hk, c1, c4, _⟩
  · obtain ⟨hfb, hf0, hf1⟩ := ndB_iff.1 hf
    have hn : ndIn m x.f := hok.need hfb hf0 hfw
    by_cases h3 : x.k = 3
    · have HQ := Lib.hid (l07Carry_any HM.out x b o HO.out HNB.out ⟨c1, c4⟩ hok.cs ⟨hf0, hf1⟩ hok.rk)
      obtain ⟨e1, e2⟩ := do3 (m := m) h3
      rw [e1, e2]
      rw [h3] at o0
      clear hd hf hfb hk e1 e2 htb hta hr
      cases hco : carOk m x
      · have HC := Lib.hid hco
        rw [if_pos rfl]
        clear hco
        go_enter Tryz.func31, Tryz.ntmps31
        go_wp2_with fail
        refine (HQ.out).mono ?_
        rintro e w1 ⟨rfl, S1, hm1, hv1⟩
        rw [HC.out]
        have HV1 := Lib.hid hv1
        clear hm1 hv1
        go_wp2
        go_ret
        exact DidC.bad HV1.out rfl (by omega)
      · have HC := Lib.hid hco
        rw [if_neg (by decide)]
        clear hco
        go_enter Tryz.func31, Tryz.ntmps31
        go_wp2_with fail
        refine (HQ.out).mono ?_
        rintro e w1 ⟨rfl, S1, hm1, hv1⟩
        rw [HC.out]
        rw [carIf_yes HC.out] at hm1
        have HV1 := Lib.hid hv1
        have HM1 := Lib.hid hm1
        clear hm1 hv1
        go_wp2
        go_ret
        exact ⟨rfl, S1, HV1.out, fun _ => HM1.out⟩
    · have hk' : x.k = 1 ∨ x.k = 2 ∨ x.k = 5 := by omega
      have HQ := Lib.hid (l07Form_any HM.out hB x b o HO.out HNB.out hok hk' ⟨c1, c4⟩ hn hf1 (fun e => by omega))
      obtain ⟨e1, e2⟩ := do125 (m := m) hk'
      rw [e1, e2]
      have hk12 : x.k = 1 ∨ x.k = 2 := by omega
      clear hd hf hfb hk e1 e2 htb hta hr hk' h3
      rcases hk12 with hk | hk <;> rw [hk] at o0
      all_goals
        go_enter Tryz.func31, Tryz.ntmps31
        go_wp2_with fail
        refine (HQ.out).mono ?_
        rintro e w1 ⟨rfl, hd⟩
        have HD := Lib.hid hd
        clear hd
        go_wp2
        go_ret
        exact ⟨rfl, HD.out⟩
  · obtain ⟨hfb, hf0, hf1⟩ := ndB_iff.1 hf
    obtain ⟨htb, ht0, ht1⟩ := ndB_iff.1 ht
    have HQ := Lib.hid (l07Move_any HM.out hB x b o HO.out HNB.out (hok.need hfb hf0 hfw) (hok.need htb ht0 htw) hne hok hf1 ht1)
    obtain ⟨e1, e2⟩ := do4 (m := m) hk
    rw [e1, e2]
    rw [hk] at o0
    clear hd hf hfb hk e1 e2 htb hr hne ht hcc
    go_enter Tryz.func31, Tryz.ntmps31
    go_wp2_with fail
    refine (HQ.out).mono ?_
    rintro e w1 ⟨rfl, hd⟩
    have HD := Lib.hid hd
    clear hd
    go_wp2
    go_ret
    exact ⟨rfl, HD.out⟩
  · obtain ⟨hfb, hf0, hf1⟩ := ndB_iff.1 hf
    obtain ⟨htb, ht0, ht1⟩ := ndB_iff.1 ht
    have HQ := Lib.hid (l07Form_any HM.out hB x b o HO.out HNB.out hok (.inr (.inr hk)) ⟨c1, c4⟩ (hok.need hfb hf0 hfw) hf1 (fun _ => ⟨hok.need htb ht0 htw, hne, ht1⟩))
    obtain ⟨e1, e2⟩ := do125 (m := m) (.inr (.inr hk))
    rw [e1, e2]
    rw [hk] at o0
    clear hd hf hfb hk e1 e2 htb hr hne ht
    go_enter Tryz.func31, Tryz.ntmps31
    go_wp2_with fail
    refine (HQ.out).mono ?_
    rintro e w1 ⟨rfl, hd⟩
    have HD := Lib.hid hd
    clear hd
    go_wp2
    go_ret
    exact ⟨rfl, HD.out⟩
  · obtain ⟨hfb, hf0, hf1⟩ := ndB_iff.1 hf
    have hn : ndIn m x.f := hok.need hfb hf0 hfw
    obtain ⟨e1, e2⟩ := do6 (m := m) hk
    rw [e1, e2]
    rw [hk] at o0
    have HF := Lib.hid hn
    have HQ := Lib.hid (l07On_any HM.out x.f hn)
    have hl4 := hok.on4 x.f
    have hdl := hok.drlen
    clear hk e1 e2 hd hf hn hfb htb hta hcc hr
    by_cases h0 : (onL m x.f).length = 0
    · rw [if_pos h0]
      have h0' : (((onL m x.f).length : Int) == 0) = true := by rw [h0]; rfl
      clear h0
      go_enter Tryz.func31, Tryz.ntmps31
      go_wp2_with fail
      refine (HQ.out).mono ?_
      rintro e w1 ⟨rfl, hb1⟩
      obtain ⟨-, ⟨Af, cf, hvf, hcf⟩, -⟩ := HM.out.onR HF.out
      rw [hvf]
      have HV1 := Lib.hid (Mv.of_below (S := S) hb1)
      clear hvf hb1
      go_wp2
      go_ret
      exact DidC.bad HV1.out rfl (by omega)
    · rw [if_neg h0]
      have h0' : (((onL m x.f).length : Int) == 0) = false := by simpa using h0
      clear h0
      go_enter Tryz.func31, Tryz.ntmps31
      go_wp2_with fail
      refine (HQ.out).mono ?_
      rintro e w1 ⟨rfl, hb1⟩
      obtain ⟨-, ⟨Af, cf, hvf, hcf⟩, -⟩ := HM.out.onR HF.out
      rw [hvf]
      have HVF := Lib.hid hvf
      have HM1 := Lib.hid (HM.out.below hb1)
      have HV1 := Lib.hid (Mv.of_below (S := S) hb1)
      have hB1 : B ≤ w1.heap.size := Nat.le_trans hB hb1.size
      generalize hN : (onL m x.f).length = N at *
      have HN := Lib.hid hN
      have hi6 : iN x.f ≠ 0 ∧ iN x.f ≠ 5 := by unfold iN iF iB; split <;> omega
      clear hvf hb1 o0 o1 o2 o3 o4 o5 o6 o7 hN HQ
      go_wp2
      go_loopw [6] (fun i wr => ∃ (k : Nat) (Sk : Nat → Spot), k ≤ N ∧ i = .int .i64 k ∧ Hid (MSt wr B g { m with dr := putAll m.dr ((onL m x.f).take k) } Sk) ∧ Hid (Mv w S wr Sk) ∧ Hid (Sk (iN x.f) = S (iN x.f)) ∧ (putAll m.dr ((onL m x.f).take k)).length ≤ 300 + k) (fun i _ => N - (intOf i).toNat)
      case atStart => exact ⟨0, S, Nat.zero_le _, rfl, HM1.out, HV1.out, rfl, by simpa [putAll] using hdl⟩
      case round =>
        rename_i wr
        obtain ⟨k, Sk, hkN, rfl, HMk, HVk, HSk, hlen⟩ := hrel
        by_cases hlt : k < N
        · have hrow : wr.ownsRow B 2 1 (.slice Af N cf) N (vI (onL m x.f)) := by
            have h1 := (HMk.out.onR (n := x.f) HF.out).2.2
            rw [show onL { m with dr := putAll m.dr ((onL m x.f).take k) } x.f = onL m x.f from rfl, HSk.out, HVF.out, HN.out] at h1
            exact h1
          have hky : (onL m x.f)[k]? = some ((onL m x.f)[k]'(by have := HN.out; omega)) := List.getElem?_eq_getElem _
          generalize (onL m x.f)[k]'(by have := HN.out; omega) = y at hky
          obtain ⟨bb, cp, hvs, hbB, hbw2, hNc, hob⟩ := row_slice hrow (by omega)
          injection hvs with e1 e2 e3
          subst e1 e3
          have hcy := (own_cellx hrow (i := k) (u := .int .i64 y) (by show (List.map _ _)[k]? = _; rw [List.getElem?_map, hky]; rfl)).1
          have HP := Lib.hid (putAll_take (l := m.dr) hky)
          obtain ⟨A6, c6, hv6⟩ : ∃ A c, (Sk 5).v = .slice A (putAll m.dr ((onL m x.f).take k)).length c := by
            have h1 := spI_own (HMk.out.sp.own 5) HMk.out.dr
            obtain ⟨A, c, h2, -⟩ := (OwC.of_own h1).cells
            exact ⟨A, c, h2⟩
          have x6 : wr.cell? ⟨g, 6, none⟩ = some (.slice A6 (putAll m.dr ((onL m x.f).take k)).length c6) := by rw [← hv6]; exact HMk.out.cells.seven.2.2.2.2.2.2
          have hrd6 := (spI_rd (HMk.out.sp.own 5) HMk.out.dr).1
          have HQP := Lib.hid (l00Put_any _ (putAll m.dr ((onL m x.f).take k)) y wr.drew hrd6 (by omega))
          rw [hv6] at HQP
          have hgw := HMk.out.size.1
          have xf6 := HMk.out.frozen 6
          have hgbb : g ≠ bb := fun e => HMk.out.sp.dis (i := iN x.f) (j := 0) hi6.1 (by rw [HSk.out, HVF.out, hob, e]) HMk.out.gbox
          have hfgb := far_cell hgbb
          clear hrow hrd6 hv6 hob hNc
          go_wp2
          rw [show ({ dst := some 53, op := Op.load 32 (Operand.tmp 52), type := 32, pos := "l07_machine.go:334", after := #[{ on := 3, ground := Ground.data }], guard := none } : Oper) = ldDo from rfl]
          go_region_held3 (fun w' => w'.cell? ⟨bb, k, none⟩ = some (.int .i64 y))
            (first | exact hcy | exact q1 | (rw [hfgb]; exact q1) | go_keep)
            (first
              | (go_at_call 69; refine (HQP.out).mono ?_; rintro e w2 ⟨v2, rfl, hown2, hb2⟩; have hb2' : Below wr.heap.size wr w2 := (Below.refl wr.heap.size wr).drew.trans hb2; obtain ⟨A2, c2, rfl⟩ : ∃ A c, v2 = .slice A (putI (putAll m.dr ((onL m x.f).take k)) y).length c := (by (obtain ⟨A, c, h1, -⟩ := (OwC.of_own hown2).cells; exact ⟨A, c, h1⟩)); have q1 : w2.cell? ⟨bb, k, none⟩ = some (.int .i64 y) := (hb2'.cell (p := ⟨bb, k, none⟩) hbw2).trans hcy; have t6 : w2.cell? ⟨g, 6, none⟩ = _ := (hb2'.cell (p := ⟨g, 6, none⟩) hgw).trans x6; have tf6 : w2.frozen? ⟨g, 6, none⟩ = false := (hb2'.frozen (p := ⟨g, 6, none⟩) hgw).trans xf6))
          have hm2 := HMk.out.below hb2'
          have hnew : ∀ q, (Value.slice A2 (putI (putAll m.dr ((onL m x.f).take k)) y).length c2).ownBlock = some q → wr.heap.size ≤ q := fun q hq => (World.ownsRow.lt hown2 q hq).1
          have hBr : B ≤ wr.heap.size := Nat.le_trans hB HVk.out.size
          have hsp := hm2.sp.putX 5 (own_base hown2 hBr) (fun q hq e => by have := (HMk.out.sp.ge e).2; have := hnew q hq; omega)
          have hE := hm2.setDr hsp
          have e0 : putS Sk 5 (spI (Value.slice A2 (putI (putAll m.dr ((onL m x.f).take k)) y).length c2) (putI (putAll m.dr ((onL m x.f).take k)) y)) 0 = Sk 0 := putS_ne (by omega)
          have hv2 := ((HVk.out.trans (Mv.of_below hb2')).put 5 (spI (Value.slice A2 (putI (putAll m.dr ((onL m x.f).take k)) y).length c2) (putI (putAll m.dr ((onL m x.f).take k)) y)) (fun q hq => .inr (Nat.le_trans HVk.out.size (hnew q hq)))).setCell (p := 0) (g := g) (i := 6) (by rw [e0]; exact HMk.out.gbox) (Value.slice A2 (putI (putAll m.dr ((onL m x.f).take k)) y).length c2) ((Sk 0).xs.set 6 (Value.slice A2 (putI (putAll m.dr ((onL m x.f).take k)) y).length c2))
          rw [e0] at hv2
          have hpl := putI_len (putAll m.dr ((onL m x.f).take k)) y
          have HE := Lib.hid hE
          have HV2 := Lib.hid hv2
          clear hE hv2 hsp e0 hm2 hnew hown2 hb2 hb2' q1 t6 tf6 hcy
          go_wp2
          refine ⟨⟨k + 1, _, by omega, by go_num, ?_, HV2.out, ?_, ?_⟩, by simp [intOf]; omega⟩
          · show MSt _ B g { m with dr := putAll m.dr ((onL m x.f).take (k + 1)) } _
            rw [HP.out]
            exact HE.out
          · show putS (putS _ _ _) _ _ (iN x.f) = _
            rw [putS_ne hi6.1, putS_ne hi6.2]
            exact HSk.out
          · rw [HP.out]; omega
        · have hkk : (onL m x.f).take k = onL m x.f := List.take_of_length_le (by have := HN.out; omega)
          rw [hkk] at HMk
          have hOr : OpAt wr b o x := HVk.out.only.cells HNB.out HO.out
          obtain ⟨-, -, t2, t3, -, -, -, -⟩ := hOr.eight
          have HQS := Lib.hid (set_lit0 HMk.out HVk.out (Nat.le_trans hB HVk.out.size) x.f (show ndIn { m with dr := putAll m.dr (onL m x.f) } x.f from HF.out))
          clear hkk hOr hlen
          go_wp2_with fail
          refine (HQS.out).mono ?_
          rintro e w7 ⟨rfl, S7, hm7, hv7⟩
          have HFIN : Hid (DidC w S B g 0 (setL { m with dr := putAll m.dr (onL m x.f) } x.f []) (.returned (.int .i64 0)) w7) := ⟨rfl, S7, hv7, fun _ => hm7⟩
          clear hm7 hv7
          go_wp2
          go_ret
          exact HFIN.out
  · obtain ⟨e1, e2⟩ := do7 (m := m) hk
    rw [e1, e2]
    rw [hk] at o0
    have x1 : w.cell? ⟨g, 1, none⟩ = some (.int .i64 m.rk) := HM.out.cells.seven.2.1
    have xf := HM.out.frozen 1
    clear hk e1 e2
    go_enter Tryz.func31, Tryz.ntmps31
    go_wp2
    go_ret
    exact ⟨rfl, _, (Mv.refl w S).setCell HM.out.gbox _ _, fun _ => HM.out.setRk⟩
  · have HQ := Lib.hid (l07In_any HM.out x b o HO.out HNB.out ⟨c1, c4⟩ hok.cs (.inl hk) hwd)
    obtain ⟨e1, e2⟩ := do89 (m := m) (.inl hk)
    rw [e1, e2]
    rw [hk] at o0
    clear hk e1 e2 hd
    go_enter Tryz.func31, Tryz.ntmps31
    go_wp2_with fail
    refine (HQ.out).mono ?_
    rintro e w1 ⟨rfl, hd⟩
    have HD := Lib.hid hd
    clear hd
    go_wp2
    go_ret
    exact ⟨rfl, HD.out⟩
  · have HQ := Lib.hid (l07In_any HM.out x b o HO.out HNB.out ⟨c1, c4⟩ hok.cs (.inr hk) hwd)
    obtain ⟨e1, e2⟩ := do89 (m := m) (.inr hk)
    rw [e1, e2]
    rw [hk] at o0
    clear hk e1 e2
    go_enter Tryz.func31, Tryz.ntmps31
    go_wp2_with fail
    refine (HQ.out).mono ?_
    rintro e w1 ⟨rfl, hd⟩
    have HD := Lib.hid hd
    clear hd
    go_wp2
    go_ret
    exact ⟨rfl, HD.out⟩

end Go.Proofs.YthhpjgdeehcgjaaGreat

/-
  A machine of a call's own, as it is made: l07New.
-/
namespace Go.Proofs.YthhpjgdeehcgjaaGreat
set_option linter.unusedVariables false
set_option linter.unusedSimpArgs false
open Go.RowKit

abbrev mcV (wd rk : Int) (F G C L D : Value) : Array Value := #[.int .i64 wd, .int .i64 rk, F, G, C, L, D]
/-- The first rows. -/
theorem MSt.init {w : World} {B g : Nat} {vc vd : Value} {cs : List Car} {dr : List Int} {wd rk : Int} (hb : w.ownsRow B 34 7 (.slice (some ⟨g, 0, none⟩) 1 1) 1 [.int .i64 wd, .int .i64 rk, .slice none 0 0, .slice none 0 0, vc, .slice none 0 0, vd])
    (hc : w.ownsRow B 86 2 vc cs.length (vS Car.cells cs)) (hd : w.ownsRow B 2 1 vd dr.length (vI dr)) (h1 : vc.ownBlock ≠ some g) (h2 : vd.ownBlock ≠ some g) (h3 : ∀ q, vc.ownBlock = some q → vd.ownBlock ≠ some q) :
    ∃ S, MSt w B g ⟨wd, rk, [], [], cs, [], dr⟩ S := by
  have s0 := (((SpotsT.none_ w B 2 1).putNone 1 32 1).putNone 2 32 1).putNone 4 50 6
  have hnone : ∀ j q, (putS (putS (putS (fun _ => Spot.none_ 2 1) 1 (Spot.none_ 32 1)) 2 (Spot.none_ 32 1)) 4 (Spot.none_ 50 6) j).v.ownBlock ≠ some q := fun j q e => by
    unfold putS at e
    split at e
    · cases e
    split at e
    · cases e
    split at e
    · cases e
    cases e
  have s1 := s0.put 3 ⟨86, 2, vc, cs.length, vS Car.cells cs⟩ hc (fun q hq => .inr fun j _ => hnone j q)
  have s2 := s1.put 5 (spI vd dr) hd (fun q hq => .inr fun j hj => by
    by_cases e : j = 3
    · rw [e, putS_same]; exact fun e => h3 q e hq
    · rw [putS_ne e]; exact hnone j q)
  have s3 := s2.put 0 ⟨34, 7, .slice (some ⟨g, 0, none⟩) 1 1, 1, [.int .i64 wd, .int .i64 rk, .slice none 0 0, .slice none 0 0, vc, .slice none 0 0, vd]⟩ hb (fun q hq => .inr fun j hj => by
    have hq' : g = q := by injection hq
    subst hq'
    by_cases e : j = 5
    · rw [e, putS_same]; exact h2
    · rw [putS_ne e]
      by_cases e : j = 3
      · rw [e, putS_same]; exact h1
      · rw [putS_ne e]; exact hnone j g)
  refine ⟨_, s3, rfl, ⟨[], rfl, fun k hk => absurd hk (by simp)⟩, ⟨[], rfl, fun k hk => absurd hk (by simp)⟩, rfl, ⟨[], rfl, fun k x hk => by simp at hk⟩, rfl, fun k l hk => by simp at hk, fun k l hk => by simp at hk, fun k x hk => by simp at hk⟩
theorem SpotsT.base {w : World} {B B' : Nat} {S : Nat → Spot} (h : SpotsT w B' S) (hB : B ≤ B') : SpotsT w B S := fun N => ⟨fun j hj => own_base ((h N).own j hj) hB, (h N).dis⟩
theorem MSt.base {w : World} {B B' g : Nat} {m : Mc} {S : Nat → Spot} (h : MSt w B' g m S) (hB : B ≤ B') : MSt w B g m S := ⟨h.sp.base hB, h.box, h.fr, h.bk, h.cs, h.ls, h.dr, h.fl, h.bl, h.pl⟩
/-- A machine that was made: by value, its rows and the box in which it was built. -/
def MadeM (w : World) (m : Mc) (e : Ending) (w' : World) : Prop :=
  ∃ (S : Nat → Spot) (g : Nat), e = .returned (.agg (mcV m.wd m.rk (S 1).v (S 2).v (S 3).v (S 4).v (S 5).v)) ∧ MSt w' w.heap.size g m S ∧ Below w.heap.size w w'
/-- Needles more, with all that stands. -/
theorem MSt.addFm {w1 w2 : World} {B g : Nat} {m : Mc} {S : Nat → Spot} {l : List Int} {vp vl : Value} {xs : List Value} (h : MSt w1 B g m S) (e1 : S 1 = ⟨32, 1, (S 1).v, m.fr.length, xs⟩)
    (hp : w1.ownsRow B 2 1 vp l.length (vI l)) (hnew : ∀ k, vp.ownBlock = some k → ¬ blk S k)
    (hown : w2.ownsRow B 32 1 vl (m.fr.length + 1) (xs ++ [vp])) (hg : w1.grownBy w2 (S 1).v.ownBlock) (hat : vl.ownBlock = (S 1).v.ownBlock ∨ vl.ownBlock = some w1.heap.size) :
    ∃ S', MSt (w2.setCell ⟨g, 2, none⟩ vl) B g { m with fr := m.fr ++ [l] } S' := by
  have hne : iF m.fr.length ≠ 1 := by unfold iF; omega
  have hsp1 := h.sp.putX (iF m.fr.length) hp hnew
  have e1' : putS S (iF m.fr.length) (spI vp l) 1 = S 1 := putS_ne (fun e => hne e.symm)
  have hsp2 := hsp1.app (w' := w2) 1 ⟨32, 1, vl, m.fr.length + 1, xs ++ [vp]⟩ hown (by rw [e1']; exact hg) (by rw [e1']; exact hat)
  exact ⟨_, h.addF e1 rfl hsp2⟩
theorem MSt.addBm {w1 w2 : World} {B g : Nat} {m : Mc} {S : Nat → Spot} {l : List Int} {vp vl : Value} {xs : List Value} (h : MSt w1 B g m S) (e1 : S 2 = ⟨32, 1, (S 2).v, m.bk.length, xs⟩)
    (hp : w1.ownsRow B 2 1 vp l.length (vI l)) (hnew : ∀ k, vp.ownBlock = some k → ¬ blk S k)
    (hown : w2.ownsRow B 32 1 vl (m.bk.length + 1) (xs ++ [vp])) (hg : w1.grownBy w2 (S 2).v.ownBlock) (hat : vl.ownBlock = (S 2).v.ownBlock ∨ vl.ownBlock = some w1.heap.size) :
    ∃ S', MSt (w2.setCell ⟨g, 3, none⟩ vl) B g { m with bk := m.bk ++ [l] } S' := by
  have hne : iB m.bk.length ≠ 2 := by unfold iB; omega
  have hsp1 := h.sp.putX (iB m.bk.length) hp hnew
  have e1' : putS S (iB m.bk.length) (spI vp l) 2 = S 2 := putS_ne (fun e => hne e.symm)
  have hsp2 := hsp1.app (w' := w2) 2 ⟨32, 1, vl, m.bk.length + 1, xs ++ [vp]⟩ hown (by rw [e1']; exact hg) (by rw [e1']; exact hat)
  exact ⟨_, h.addB e1 rfl hsp2⟩
theorem MSt.rowF {w : World} {B g : Nat} {m : Mc} {S : Nat → Spot} (h : MSt w B g m S) : ∃ xs A c, S 1 = ⟨32, 1, (S 1).v, m.fr.length, xs⟩ ∧ w.ownsRow B 32 1 (S 1).v m.fr.length xs ∧ (S 1).v = .slice A m.fr.length c ∧ w.cell? ⟨g, 2, none⟩ = some (.slice A m.fr.length c) := by
  obtain ⟨xs, e, _⟩ := h.fr
  obtain ⟨A, c, h1, -⟩ := (OwC.of_own (h.owned e)).cells
  exact ⟨xs, A, c, e, h.owned e, h1, by rw [← h1]; exact h.cells.seven.2.2.1⟩
theorem MSt.rowB {w : World} {B g : Nat} {m : Mc} {S : Nat → Spot} (h : MSt w B g m S) : ∃ xs A c, S 2 = ⟨32, 1, (S 2).v, m.bk.length, xs⟩ ∧ w.ownsRow B 32 1 (S 2).v m.bk.length xs ∧ (S 2).v = .slice A m.bk.length c ∧ w.cell? ⟨g, 3, none⟩ = some (.slice A m.bk.length c) := by
  obtain ⟨xs, e, _⟩ := h.bk
  obtain ⟨A, c, h1, -⟩ := (OwC.of_own (h.owned e)).cells
  exact ⟨xs, A, c, e, h.owned e, h1, by rw [← h1]; exact h.cells.seven.2.2.2.1⟩

/-- All headers are slices. -/
theorem MSt.slices {w : World} {B g : Nat} {m : Mc} {S : Nat → Spot} (h : MSt w B g m S) : ∃ A1 c1 A2 c2 A3 c3 A4 c4 A5 c5, (S 1).v = .slice A1 m.fr.length c1 ∧ (S 2).v = .slice A2 m.bk.length c2 ∧ (S 3).v = .slice A3 m.cs.length c3 ∧ (S 4).v = .slice A4 m.ls.length c4 ∧ (S 5).v = .slice A5 m.dr.length c5 := by
  obtain ⟨xs1, A1, c1, -, -, h1, -⟩ := h.rowF
  obtain ⟨xs2, A2, c2, -, -, h2, -⟩ := h.rowB
  obtain ⟨A3, c3, h3, -⟩ := (OwC.of_own (h.owned h.cs)).cells
  obtain ⟨xs4, -, h4⟩ := h.rowL
  obtain ⟨A4, c4, h5, -⟩ := (OwC.of_own h4).cells
  obtain ⟨A5, c5, h6, -⟩ := (OwC.of_own (spI_own (h.sp.own 5) h.dr)).cells
  exact ⟨A1, c1, A2, c2, A3, c3, A4, c4, A5, c5, h1, h2, h3, h5, h6⟩
theorem set7_heap (W : World) (b : Nat) (u0 u1 u2 u3 u4 u5 u6 : Value) (q : Nat) (hq : q ≠ b) : (((((((W.setCell ⟨b, 0, none⟩ u0).setCell ⟨b, 1, none⟩ u1).setCell ⟨b, 2, none⟩ u2).setCell ⟨b, 3, none⟩ u3).setCell ⟨b, 4, none⟩ u4).setCell ⟨b, 5, none⟩ u5).setCell ⟨b, 6, none⟩ u6).heap[q]? = W.heap[q]? := by
  rw [Below.heap_setCell _ _ _ _ (by exact hq), Below.heap_setCell _ _ _ _ (by exact hq), Below.heap_setCell _ _ _ _ (by exact hq), Below.heap_setCell _ _ _ _ (by exact hq), Below.heap_setCell _ _ _ _ (by exact hq), Below.heap_setCell _ _ _ _ (by exact hq), Below.heap_setCell _ _ _ _ (by exact hq)]
/-- A machine without loops. -/
def newMc (n : Int) : Mc := ⟨n, 0, List.replicate n.toNat [], List.replicate n.toNat [], List.replicate 4 ⟨false, 0⟩, [], []⟩

set_option maxHeartbeats 4000000 in
set_option maxRecDepth 100000 in
theorem l07New_any (n : Int) (h0 : 1 ≤ n) (h1 : n ≤ 24) (w : World) : Calls Tryz.prog 22 #[.int .i64 n] w (MadeM w (newMc n)) := by
  obtain ⟨i0, hi, hz0, hz1, hz2⟩ := info_parts info_sl
  have hmk : ∀ W : World, (Instr.makeSlice 30 (.int .i64 4) (.int .i64 4)).run Tryz.prog W = .ok (.slice (some ⟨W.heap.size, 0, none⟩) 4 4) (W.alloc (.cells (madeCells #[.bool false, .int .i64 0] 8) 86)) := fun W => run_make_rowsN (P := Tryz.prog) 30 86 #[.bool false, .int .i64 0] 2 16 Tryz.underlying30 info_car .i64 .i64 4 (by omega) (by omega) W
  go_enter Tryz.func22, Tryz.ntmps22
  go_wp2
  obtain ⟨N, rfl⟩ : ∃ N : Nat, n = (N : Int) := ⟨n.toNat, by omega⟩
  have hN24 : N ≤ 24 := by omega
  have hinit : ∃ S, MSt (((w.alloc (.cells (mcV 0 0 (.slice none 0 0) (.slice none 0 0) (.slice none 0 0) (.slice none 0 0) (.slice none 0 0)) 34)).alloc (.cells (madeCells #[.bool false, .int .i64 0] 8) 86)).alloc (.cells (mcV (N : Int) 0 (.slice none 0 0) (.slice none 0 0) (.slice (some ⟨w.heap.size + 1, 0, none⟩) 4 4) (.slice none 0 0) (.slice none 0 0)) 34)) (w.heap.size + 1) (w.heap.size + 1 + 1) ⟨N, 0, [], [], List.replicate 4 ⟨false, 0⟩, [], []⟩ S := by
    have hW1 := World.ownsRow_lit (base := w.heap.size + 1) (e := 86) (size := 2) (w.alloc (.cells (mcV 0 0 (.slice none 0 0) (.slice none 0 0) (.slice none 0 0) (.slice none 0 0) (.slice none 0 0)) 34)) (madeCells #[.bool false, .int .i64 0] 8) 4 (by simp) (by unfold maxLen; omega) (size_madeCells _ _)
    rw [show (madeCells #[.bool false, .int .i64 0] 8).toList = vS Car.cells (List.replicate 4 ⟨false, 0⟩) by kernel_rfl] at hW1
    have hW2 := World.ownsRow_lit (base := w.heap.size + 1) (e := 34) (size := 7) ((w.alloc (.cells (mcV 0 0 (.slice none 0 0) (.slice none 0 0) (.slice none 0 0) (.slice none 0 0) (.slice none 0 0)) 34)).alloc (.cells (madeCells #[.bool false, .int .i64 0] 8) 86)) (mcV (N : Int) 0 (.slice none 0 0) (.slice none 0 0) (.slice (some ⟨w.heap.size + 1, 0, none⟩) 4 4) (.slice none 0 0) (.slice none 0 0)) 1 (by simp) (by unfold maxLen; omega) rfl
    have z1 : (w.alloc (.cells (mcV 0 0 (.slice none 0 0) (.slice none 0 0) (.slice none 0 0) (.slice none 0 0) (.slice none 0 0)) 34)).heap.size = w.heap.size + 1 := by simp
    have z2 : ((w.alloc (.cells (mcV 0 0 (.slice none 0 0) (.slice none 0 0) (.slice none 0 0) (.slice none 0 0) (.slice none 0 0)) 34)).alloc (.cells (madeCells #[.bool false, .int .i64 0] 8) 86)).heap.size = w.heap.size + 1 + 1 := by simp
    rw [z1] at hW1
    rw [z2] at hW2
    refine MSt.init hW2 (hW1.alloc _) (World.ownsRow_nil _ _ _ _) ?_ ?_ ?_
    · intro e; injection e with e; have e' : w.heap.size + 1 = w.heap.size + 1 + 1 := e; omega
    · intro e; cases e
    · intro q _ e; cases e
  obtain ⟨S0, hS0⟩ := hinit
  have HS0 := Lib.hid hS0
  have HB0 := Lib.hid (show Below (w.heap.size + 1) (w.alloc (.cells (mcV 0 0 (.slice none 0 0) (.slice none 0 0) (.slice none 0 0) (.slice none 0 0) (.slice none 0 0)) 34)) (((w.alloc (.cells (mcV 0 0 (.slice none 0 0) (.slice none 0 0) (.slice none 0 0) (.slice none 0 0) (.slice none 0 0)) 34)).alloc (.cells (madeCells #[.bool false, .int .i64 0] 8) 86)).alloc (.cells (mcV (N : Int) 0 (.slice none 0 0) (.slice none 0 0) (.slice (some ⟨w.heap.size + 1, 0, none⟩) 4 4) (.slice none 0 0) (.slice none 0 0)) 34)) from ((Below.refl _ _).alloc (by simp) _).alloc (by simp) _)
  clear hS0 hmk
  go_loopw [4] (fun i wr => ∃ (k : Nat) (Sk : Nat → Spot) (wq : World), wq = wr ∧ k ≤ N ∧ i = .int .i64 k ∧ Hid (MSt wr (w.heap.size + 1) (w.heap.size + 1 + 1) ⟨N, 0, List.replicate k [], List.replicate k [], List.replicate 4 ⟨false, 0⟩, [], []⟩ Sk) ∧ Hid (Below (w.heap.size + 1) (w.alloc (.cells (mcV 0 0 (.slice none 0 0) (.slice none 0 0) (.slice none 0 0) (.slice none 0 0) (.slice none 0 0)) 34)) wr)) (fun i _ => N - (intOf i).toNat)
  case atStart => exact ⟨0, S0, _, rfl, Nat.zero_le _, rfl, HS0.out, HB0.out⟩
  case round =>
    obtain ⟨k, Sk, wq, hwq, hk, rfl, HM, HB⟩ := hrel
    subst hwq
    by_cases hlt : k < N
    · obtain ⟨xsa, Aa, ca, ea, howa, hva, hca⟩ := HM.out.rowF
      have hgwa := HM.out.size.1
      have hBza : w.heap.size + 1 ≤ wq.heap.size := by have := HB.out.size; simpa using this
      rw [hva] at howa
      have hfla : (List.replicate k ([] : List Int)).length = k := by simp
      rw [hfla] at howa hva hca
      have HEa := Lib.hid ea
      have HOWa := Lib.hid howa
      have HVa := Lib.hid hva
      have hnga : (Value.slice Aa k ca).ownBlock ≠ some (w.heap.size + 1 + 1) := fun e => HM.out.sp.dis (i := 1) (j := 0) (by omega) (by rw [hva]; exact e) HM.out.gbox
      have HNGa := Lib.hid hnga
      clear ea howa hva hnga hfla
      go_wp2_with (at_builtin; refine wpList_append_own_at _ rfl _ _ 29 rfl (w.heap.size + 1) 32 i0 _ 1 24 Tryz.underlying29 hi hz0 hz1 hz2 rfl (by decide) _ _ _ rfl ((HOWa.out.alloc _).alloc _) ⟨_, 0, none⟩ 1 1 [.slice (some ⟨wq.heap.size, 0, none⟩) 0 0] rfl rfl (new_cells' _ _ (by simp)) (by intro u hu; simp at hu; subst hu; rfl) (by unfold maxLen; omega) (by omega) (by (try simp at hBza); simp; omega) ?_)
      intro va wa howna hgrowa _ hata
      have ta : wa.cell? ⟨w.heap.size + 1 + 1, 2, none⟩ = some (.slice Aa k ca) := (hgrowa.cell_far ⟨w.heap.size + 1 + 1, 2, none⟩ (by (try simp at hgwa); simp; omega) (Ne.symm HNGa.out)).trans ((((Below.refl wq.heap.size wq).alloc (Nat.le_refl _) _).alloc (by simp) _).cell (p := ⟨w.heap.size + 1 + 1, 2, none⟩) hgwa |>.trans hca)
      have tfa : wa.frozen? ⟨w.heap.size + 1 + 1, 2, none⟩ = false := (hgrowa.frozen_far ⟨w.heap.size + 1 + 1, 2, none⟩ (by (try simp at hgwa); simp; omega) (Ne.symm HNGa.out)).trans ((((Below.refl wq.heap.size wq).alloc (Nat.le_refl _) _).alloc (by simp) _).frozen (p := ⟨w.heap.size + 1 + 1, 2, none⟩) hgwa |>.trans (HM.out.frozen 2))
      obtain ⟨Ava, cva, rfl⟩ : ∃ A c, va = .slice A (k + 1) c := by
        obtain ⟨A, c, h1, -⟩ := (OwC.of_own howna).cells
        exact ⟨A, c, h1⟩
      have hFa : ∃ S', MSt (wa.setCell ⟨w.heap.size + 1 + 1, 2, none⟩ (.slice Ava (k + 1) cva)) (w.heap.size + 1) (w.heap.size + 1 + 1) ⟨N, 0, List.replicate k [] ++ [[]], List.replicate k [], List.replicate 4 ⟨false, 0⟩, [], []⟩ S' := by
        have hWA : Below wq.heap.size wq (wq.alloc (.cells #[] 2)) := (Below.refl _ _).alloc (Nat.le_refl _) _
        have hWB : Below wq.heap.size wq ((wq.alloc (.cells #[] 2)).alloc (.cells #[.slice (some ⟨wq.heap.size, 0, none⟩) 0 0] 32)) := hWA.alloc (by simp) _
        have ea := HEa.out
        have hfla : (List.replicate k ([] : List Int)).length = k := by simp
        have hq : ∀ q, (Value.slice (some ⟨wq.heap.size, 0, none⟩) 0 0).ownBlock = some q → wq.heap.size = q := fun q hq => by injection hq
        refine (HM.out.below hWB).addFm (l := []) ea (own_base ((lit0 wq).alloc _) hBza) (fun q hq' e => by have := (HM.out.sp.ge e).2; have := hq q hq'; omega) ?_ ?_ ?_
        · rw [hfla]; exact howna
        · rw [HVa.out]; exact hgrowa
        · rw [HVa.out]; (first | exact hata | simpa using hata)
      have HFa := Lib.hid hFa
      have HBa := Lib.hid (((HB.out.alloc hBza _).alloc (by (try simp at hBza); simp; omega) _).grown hgrowa (by (try simp at hBza); simp; omega) (fun q hq => (World.ownsRow.lt HOWa.out q hq).1) |>.setCell (p := ⟨w.heap.size + 1 + 1, 2, none⟩) (Nat.le_succ _) (.slice Ava (k + 1) cva))
      clear hFa howna hgrowa hata hca

      obtain ⟨Sx, hSx⟩ := HFa.out
      have HMx := Lib.hid hSx
      clear hSx hgwa hBza
      obtain ⟨xsb, Ab, cb, eb, howb, hvb, hcb⟩ := HMx.out.rowB
      have hgwb := HMx.out.size.1
      have hBzb : w.heap.size + 1 ≤ (wa.setCell ⟨w.heap.size + 1 + 1, 2, none⟩ (.slice Ava (k + 1) cva)).heap.size := by have := HBa.out.size; simpa using this
      rw [hvb] at howb
      have hflb : (List.replicate k ([] : List Int)).length = k := by simp
      rw [hflb] at howb hvb hcb
      have HEb := Lib.hid eb
      have HOWb := Lib.hid howb
      have HVb := Lib.hid hvb
      have hngb : (Value.slice Ab k cb).ownBlock ≠ some (w.heap.size + 1 + 1) := fun e => HMx.out.sp.dis (i := 2) (j := 0) (by omega) (by rw [hvb]; exact e) HMx.out.gbox
      have HNGb := Lib.hid hngb
      clear eb howb hvb hngb hflb
      go_wp2_with (at_builtin; refine wpList_append_own_at _ rfl _ _ 29 rfl (w.heap.size + 1) 32 i0 _ 1 24 Tryz.underlying29 hi hz0 hz1 hz2 rfl (by decide) _ _ _ rfl ((HOWb.out.alloc _).alloc _) ⟨_, 0, none⟩ 1 1 [.slice (some ⟨wa.heap.size, 0, none⟩) 0 0] rfl rfl (new_cells' _ _ (by simp)) (by intro u hu; simp at hu; subst hu; rfl) (by unfold maxLen; omega) (by omega) (by (try simp at hBzb); simp; omega) ?_)
      intro vb wb hownb hgrowb _ hatb
      have tb : wb.cell? ⟨w.heap.size + 1 + 1, 3, none⟩ = some (.slice Ab k cb) := (hgrowb.cell_far ⟨w.heap.size + 1 + 1, 3, none⟩ (by (try simp at hgwb); simp; omega) (Ne.symm HNGb.out)).trans ((((Below.refl (wa.setCell ⟨w.heap.size + 1 + 1, 2, none⟩ (.slice Ava (k + 1) cva)).heap.size (wa.setCell ⟨w.heap.size + 1 + 1, 2, none⟩ (.slice Ava (k + 1) cva))).alloc (Nat.le_refl _) _).alloc (by simp) _).cell (p := ⟨w.heap.size + 1 + 1, 3, none⟩) hgwb |>.trans hcb)
      have tfb : wb.frozen? ⟨w.heap.size + 1 + 1, 3, none⟩ = false := (hgrowb.frozen_far ⟨w.heap.size + 1 + 1, 3, none⟩ (by (try simp at hgwb); simp; omega) (Ne.symm HNGb.out)).trans ((((Below.refl (wa.setCell ⟨w.heap.size + 1 + 1, 2, none⟩ (.slice Ava (k + 1) cva)).heap.size (wa.setCell ⟨w.heap.size + 1 + 1, 2, none⟩ (.slice Ava (k + 1) cva))).alloc (Nat.le_refl _) _).alloc (by simp) _).frozen (p := ⟨w.heap.size + 1 + 1, 3, none⟩) hgwb |>.trans (HMx.out.frozen 3))
      obtain ⟨Avb, cvb, rfl⟩ : ∃ A c, vb = .slice A (k + 1) c := by
        obtain ⟨A, c, h1, -⟩ := (OwC.of_own hownb).cells
        exact ⟨A, c, h1⟩
      have hFb : ∃ S', MSt (wb.setCell ⟨w.heap.size + 1 + 1, 3, none⟩ (.slice Avb (k + 1) cvb)) (w.heap.size + 1) (w.heap.size + 1 + 1) ⟨N, 0, List.replicate k [] ++ [[]], List.replicate k [] ++ [[]], List.replicate 4 ⟨false, 0⟩, [], []⟩ S' := by
        have hWA : Below (wa.setCell ⟨w.heap.size + 1 + 1, 2, none⟩ (.slice Ava (k + 1) cva)).heap.size (wa.setCell ⟨w.heap.size + 1 + 1, 2, none⟩ (.slice Ava (k + 1) cva)) ((wa.setCell ⟨w.heap.size + 1 + 1, 2, none⟩ (.slice Ava (k + 1) cva)).alloc (.cells #[] 2)) := (Below.refl _ _).alloc (Nat.le_refl _) _
        have hWB : Below (wa.setCell ⟨w.heap.size + 1 + 1, 2, none⟩ (.slice Ava (k + 1) cva)).heap.size (wa.setCell ⟨w.heap.size + 1 + 1, 2, none⟩ (.slice Ava (k + 1) cva)) (((wa.setCell ⟨w.heap.size + 1 + 1, 2, none⟩ (.slice Ava (k + 1) cva)).alloc (.cells #[] 2)).alloc (.cells #[.slice (some ⟨wa.heap.size, 0, none⟩) 0 0] 32)) := hWA.alloc (by simp) _
        have eb := HEb.out
        have hflb : (List.replicate k ([] : List Int)).length = k := by simp
        have hzx : (wa.setCell ⟨w.heap.size + 1 + 1, 2, none⟩ (.slice Ava (k + 1) cva)).heap.size = wa.heap.size := by simp
        have hlx := lit0 (wa.setCell ⟨w.heap.size + 1 + 1, 2, none⟩ (.slice Ava (k + 1) cva))
        rw [hzx] at hlx
        have hq : ∀ q, (Value.slice (some ⟨wa.heap.size, 0, none⟩) 0 0).ownBlock = some q → wa.heap.size = q := fun q hq => by injection hq
        refine (HMx.out.below hWB).addBm (l := []) eb (own_base (hlx.alloc _) (by rw [← hzx]; exact hBzb)) (fun q hq' e => by have := (HMx.out.sp.ge e).2; have := hq q hq'; omega) ?_ ?_ ?_
        · rw [hflb]; exact hownb
        · rw [HVb.out]; exact hgrowb
        · rw [HVb.out]; (first | exact hatb | simpa using hatb)
      have HFb := Lib.hid hFb
      have HBb := Lib.hid (((HBa.out.alloc hBzb _).alloc (by (try simp at hBzb); simp; omega) _).grown hgrowb (by (try simp at hBzb); simp; omega) (fun q hq => (World.ownsRow.lt HOWb.out q hq).1) |>.setCell (p := ⟨w.heap.size + 1 + 1, 3, none⟩) (Nat.le_succ _) (.slice Avb (k + 1) cvb))
      clear hFb hownb hgrowb hatb hcb

      obtain ⟨Sy, hSy⟩ := HFb.out
      have HMy := Lib.hid hSy
      clear hSy
      go_wp2
      refine ⟨⟨k + 1, Sy, _, rfl, by omega, by go_num, ?_, HBb.out⟩, by simp [intOf]; omega⟩
      unfold Hid
      rw [List.replicate_succ']
      exact HMy.out
    · have hkN : k = N := by omega
      subst hkN
      obtain ⟨x0, x1, x2, x3, x4, x5, x6⟩ := HM.out.cells.seven
      have hB1 := HB.out
      have r0 : ∀ (j : Nat) (u : Value), (mcV 0 0 (.slice none 0 0) (.slice none 0 0) (.slice none 0 0) (.slice none 0 0) (.slice none 0 0)).toList[j]? = some u → wq.cell? ⟨w.heap.size, 0 + j, none⟩ = some u := fun j u hu => (HB.out.cell (p := ⟨w.heap.size, 0 + j, none⟩) (Nat.lt_succ_self _)).trans (CellsAt.of_alloc (us := (mcV 0 0 (.slice none 0 0) (.slice none 0 0) (.slice none 0 0) (.slice none 0 0) (.slice none 0 0)).toList) j u hu)
      obtain ⟨q0, q1, q2, q3, q4, q5, q6⟩ := CellsAt.seven (w := wq) (b := w.heap.size) (o := 0) r0
      have qf : ∀ i, wq.frozen? ⟨w.heap.size, i, none⟩ = false := fun i => (HB.out.frozen (p := ⟨w.heap.size, i, none⟩) (Nat.lt_succ_self _)).trans (frozen_of_row _ _ i _ _ (heap_alloc_new w _))
      obtain ⟨A1, c1, A2, c2, A3, c3, A4, c4, A5, c5, g1, g2, g3, g4, g5⟩ := HM.out.slices
      have HG := Lib.hid (And.intro g1 (And.intro g2 (And.intro g3 (And.intro g4 g5))))
      rw [g1] at x2
      rw [g2] at x3
      rw [g3] at x4
      rw [g4] at x5
      rw [g5] at x6
      clear r0 hB1 g1 g2 g3 g4 g5
      have hgr : (w.heap.size + 1 + 1) ≠ w.heap.size := by omega
      go_wp2
      refine bodyPost_ret (v := .agg (mcV (k : Int) 0 (.slice A1 k c1) (.slice A2 k c2) (.slice A3 4 c3) (.slice A4 0 c4) (.slice A5 0 c5))) (by simp [results, Tryz.results22, go_sem, q0, q1, q2, q3, q4, q5, q6, World.cell?_setCell_other]) rfl ?_
      obtain ⟨g1, g2, g3, g4, g5⟩ := HG.out
      have en : newMc (k : Int) = ⟨k, 0, List.replicate k [], List.replicate k [], List.replicate 4 ⟨false, 0⟩, [], []⟩ := by unfold newMc; simp
      refine ⟨Sk, w.heap.size + 1 + 1, by rw [g1, g2, g3, g4, g5, en]; simp, ?_, ?_⟩
      · rw [en]
        exact (HM.out.keep (fun j q hq => set7_heap _ _ _ _ _ _ _ _ _ _ (by have := (HM.out.sp.lt hq).1; omega))).base (by omega)
      · have hb0 : Below w.heap.size w wq := ((Below.refl _ _).alloc (Nat.le_refl _) _).trans (HB.out.mono (by omega))
        exact (((((((hb0.setCell (Nat.le_refl _) _).setCell (Nat.le_refl _) _).setCell (Nat.le_refl _) _).setCell (Nat.le_refl _) _).setCell (Nat.le_refl _) _).setCell (Nat.le_refl _) _).setCell (Nat.le_refl _) _)

end Go.Proofs.YthhpjgdeehcgjaaGreat
