/-
  SpanOf of the program.
-/
import Derived.Test.YthpgbklcbmpacaaSpan
import Derived.Deep.RegionWith
import Derived.Deep.Cut
import Derived.BigQuiet
namespace Go.Proofs.Ythpgbklcbmpacaa
set_option linter.unusedVariables false
set_option linter.unusedSimpArgs false
open Go.RowKit

set_option maxHeartbeats 8000000 in
set_option maxRecDepth 100000 in
theorem implSpan_any (v : Value) (l : List Opr) (p : Pas) (w : World) (hl : RdO w w.heap.size v l) (hcp : CapOk v) :
    Calls Try.prog 17 #[v, p.v] w fun e w' => e = .returned (spnV l p) ∧ Below w.heap.size w w' := by
  have HB0 := Lib.hid (show Below w.heap.size w (w.alloc (.cells #[.int .i64 p.k, .int .i64 p.d, .int .i64 p.c, .int .i64 p.r, .int .i64 p.f, .int .i64 p.n] 38)) from (Below.refl _ _).alloc (Nat.le_refl _) _)
  have HP0 : Hid (CellsAt (w.alloc (.cells #[.int .i64 p.k, .int .i64 p.d, .int .i64 p.c, .int .i64 p.r, .int .i64 p.f, .int .i64 p.n] 38)) w.heap.size 0 p.cells) := fun j u hu => by
    rcases j with _ | _ | _ | _ | _ | _ | j <;> simp at hu <;> subst hu <;> simp [go_sem]
  have HZ0 := Lib.hid (show w.heap.size < (w.alloc (.cells #[.int .i64 p.k, .int .i64 p.d, .int .i64 p.c, .int .i64 p.r, .int .i64 p.f, .int .i64 p.n] 38)).heap.size by simp)
  have HL0 := Lib.hid ((hl.below HB0.out).more HB0.out.size)
  cases hok : opsB 24 l
  · have HN := Lib.hid (spn_bad (p := p) hok)
    have HV := Lib.hid (areOps_any v l _ HL0.out)
    rw [hok] at HV
    obtain ⟨A, N, c, rfl, hbig, hln, gl⟩ := hl
    clear hok gl hln hcp
    go_enter Try.func17, Try.ntmps17
    go_wp2_with fail
    refine HV.out.mono ?_
    rintro e w1 ⟨rfl, hb1⟩
    have HB1 := Lib.hid (HB0.out.trans (hb1.mono HB0.out.size))
    clear hb1
    go_wp2
    go_ret3
    exact ⟨by rw [HN.out]; rfl, HB1.out⟩
  have HV := Lib.hid (areOps_any v l _ HL0.out)
  rw [hok] at HV
  have HQ1 := Lib.hid (fun (w1 : World) (h : Below w.heap.size w w1) => passes_any 24 v l w1 ((hl.below h).more h.size) hok)
  have HQ2 := Lib.hid (fun (w1 : World) (v1 : Value) (h : RdPs w1 w1.heap.size v1 (psL l)) => containsPs_any v1 (psL l) p w1 h)
  by_cases hm : p ∈ psL l
  case neg =>
    have HN := Lib.hid (spn_none hok hm)
    have HC := Lib.hid (show decide (p ∈ psL l) = false by simpa using hm)
    rw [HC.out] at HQ2
    obtain ⟨A, N, c, rfl, hbig, hln, gl⟩ := hl
    clear hok gl hln hcp hm
    go_enter Try.func17, Try.ntmps17
    go_wp2_with fail
    refine HV.out.mono ?_
    rintro e w1 ⟨rfl, hb1⟩
    have HB1 := Lib.hid (HB0.out.trans (hb1.mono HB0.out.size))
    have HP1 := Lib.hid (HP0.out.below hb1 HZ0.out)
    have hz1 : w.heap.size < w1.heap.size := Nat.lt_of_lt_of_le HZ0.out hb1.size
    clear hb1 HP0 HZ0 HL0
    obtain ⟨p0, p1, p2, p3, p4, p5⟩ := HP1.out.six
    go_wp2
    go_region_with ((first | (go_at_call 25; refine (HQ1.out _ HB1.out.drew).mono ?_; rintro e w2 ⟨v2, rfl, ho, hb2⟩; obtain ⟨A2, c2, rfl, -⟩ := ho.cells; have HO2 := Lib.hid (RdS.of_own Pas.len ho); have HB21 : Hid (Below w1.heap.size w1 w2) := Lib.hid ((Below.refl _ _).drew.trans hb2); obtain ⟨q0, q1, q2, q3, q4, q5⟩ := (HP1.out.below HB21.out hz1).six; clear hb2 ho) | (go_at_call 31; refine (HQ2.out _ _ HO2.out).mono ?_; rintro e w3 ⟨rfl, hb3⟩; have HB31 := Lib.hid (HB21.out.trans (hb3.mono HB21.out.size)); have HB3 := Lib.hid (HB1.out.trans (HB31.out.mono HB1.out.size)); clear hb3)))
    all_goals clear p0 p1 p2 p3 p4 p5 q0 q1 q2 q3 q4 q5 HO2 HB21
    all_goals
      go_wp2
      go_ret3
      exact ⟨by rw [HN.out]; rfl, HB3.out⟩
  have HN := Lib.hid (spn_yes hok hm)
  have HC := Lib.hid (show decide (p ∈ psL l) = true by simpa using hm)
  rw [HC.out] at HQ2
  have hin := psL_in hok hm
  have HOK := Lib.hid (fun (k : Nat) (x : Opr) (hx : l[k]? = some x) => okOp_fa (ops_at hok hx))
  obtain ⟨pk, pd, pc, pr, pf, pn⟩ := p
  obtain ⟨hf0, hn1, hfn, hr0, hr1⟩ := hin
  simp only at hf0 hn1 hfn hr0 hr1
  obtain ⟨f, rfl⟩ : ∃ f : Nat, pf = f := ⟨pf.toNat, by omega⟩
  obtain ⟨n, rfl⟩ : ∃ n : Nat, pn = n := ⟨pn.toNat, by omega⟩
  have hlen := ops_len hok
  obtain ⟨A, N, c, rfl, hbig, hln, gl⟩ := hl
  have hlN := hln.out
  have hfN : f + n ≤ N := by omega
  have hN : N ≤ 1500 := by omega
  have GL := Lib.hid gl
  clear gl hln hm hok hfn hlen hlN
  obtain ⟨cap0, hcap⟩ : ∃ c0, c0 = c := ⟨_, rfl⟩
  have hcN : N ≤ c := by
    obtain ⟨A', n', c', e, h⟩ := hcp
    injection e with e1 e2 e3
    subst e1 e2 e3
    exact h
  clear hcp hcap cap0
  go_enter Try.func17, Try.ntmps17
  go_wp2_with fail
  refine HV.out.mono ?_
  rintro e w1 ⟨rfl, hb1⟩
  have HB1 := Lib.hid (HB0.out.trans (hb1.mono HB0.out.size))
  have HP1 := Lib.hid (HP0.out.below hb1 HZ0.out)
  have hz1 : w.heap.size < w1.heap.size := Nat.lt_of_lt_of_le HZ0.out hb1.size
  clear hb1 HP0 HZ0 HL0
  obtain ⟨p0, p1, p2, p3, p4, p5⟩ := HP1.out.six
  go_wp2
  go_region_with ((first | (go_at_call 25; refine (HQ1.out _ HB1.out.drew).mono ?_; rintro e w2 ⟨v2, rfl, ho, hb2⟩; obtain ⟨A2, c2, rfl, -⟩ := ho.cells; have HO2 := Lib.hid (RdS.of_own Pas.len ho); have HB21 : Hid (Below w1.heap.size w1 w2) := Lib.hid ((Below.refl _ _).drew.trans hb2); obtain ⟨q0, q1, q2, q3, q4, q5⟩ := (HP1.out.below HB21.out hz1).six; clear hb2 ho) | (go_at_call 31; refine (HQ2.out _ _ HO2.out).mono ?_; rintro e w3 ⟨rfl, hb3⟩; have HB31 := Lib.hid (HB21.out.trans (hb3.mono HB21.out.size)); have HB3 := Lib.hid (HB1.out.trans (HB31.out.mono HB1.out.size)); clear hb3)))
  all_goals clear p0 p1 p2 p3 p4 p5 q0 q1 q2 q3 q4 q5 HO2 HB21
  all_goals
    have hz3 : w.heap.size < w3.heap.size := Nat.lt_of_lt_of_le hz1 HB31.out.size
    obtain ⟨b, off, x, rfl, hbb, hlk, hcx⟩ := GL.out f (by omega)
    have hcx3 := hcx.below HB3.out hbb
    have HZ := Lib.hid (show spnZ l ⟨pk, pd, pc, pr, f, n⟩ = plc x.fb x.fa pr by unfold spnZ; simp only [Int.toNat_natCast]; rw [hlk])
    have hfx := HOK.out f x hlk
    have HQP := Lib.hid (fun w' => place_any x.fb x.fa pr hfx.1 hfx.2 (by omega) (by omega) w')
    have HP3 := Lib.hid (HP1.out.below HB31.out hz1)
    clear hlk hfx hcx HQ1 HQ2
    rw [HZ.out] at HN
    generalize plc x.fb x.fa pr = z0 at *
    have hpg := HP3.out.grow6
    have hxg := hcx3.grow8
    obtain ⟨p0, p1, p2, p3, p4, p5⟩ := hpg
    obtain ⟨x0, x1, x2, x3, x4, x5, x6, x7⟩ := hxg
    go_wp2
    refine wp_region_grow (by kernel_rfl) (by kernel_rfl) ?_
    repeat (go_big_quiet_step ((go_at_call 32; exact calls_grow (HQP.out _))))
    refine wpQuiet_nil ?_
    intro w4 hb4
    clear p0 p1 p2 p3 p4 p5 x0 x1 x2 x3 x4 x5 x6 x7 hcx3 HZ
    have HB4 := Lib.hid (HB3.out.trans (hb4.mono HB3.out.size))
    have HP4 := Lib.hid (HP3.out.below hb4 hz3)
    have hz4 : w.heap.size < w4.heap.size := Nat.lt_of_lt_of_le hz3 hb4.size
    obtain ⟨p0, p1, p2, p3, p4, p5⟩ := HP4.out.six
    have hwr : IntKind.i64.wrap ((f : Int) + (n : Int)) = ((f + n : Nat) : Int) := by rw [IntWalk.i64_in _ (by omega)]; omega
    clear hb4
    go_wp2
    clear p0 p1 p2 p3 p4 p5 hwr HQP
    generalize hS : spnS l ⟨pk, pd, pc, pr, f, n⟩ = S at *
    generalize hLO : lowG pr z0 S = LO at *
    generalize hHI : highG pr z0 S = HI at *
    have HLO := Lib.hid (show LO = lowG pr z0 (S.drop 0) from hLO.symm)
    have HHI := Lib.hid (show HI = highG pr z0 (S.drop 0) from hHI.symm)
    have HSA := Lib.hid (fun k (hk : k < n) => show S[k]? = l[f + k]? by rw [← hS]; exact spnS_at rfl rfl hk)
    have HSL := Lib.hid (show S.length ≤ n by rw [← hS]; exact spnS_len rfl rfl)
    clear hS hLO hHI
    go_loopw [7, 8, 39] (fun lo hi i wr => ∃ (k : Nat) (zl zh : Int), k ≤ n ∧ i = .int .i64 k ∧ lo = .int .i64 zl ∧ hi = .int .i64 zh ∧ Hid (LO = lowG pr zl (S.drop k)) ∧ Hid (HI = highG pr zh (S.drop k)) ∧ Hid (CellsAt wr w.heap.size 0 [.int .i64 pk, .int .i64 pd, .int .i64 pc, .int .i64 pr, .int .i64 f, .int .i64 n]) ∧ Hid (w.heap.size < wr.heap.size) ∧ Hid (Below w.heap.size w wr)) (fun _ _ i _ => n - (intOf i).toNat)
    case atStart => exact ⟨0, z0, z0, Nat.zero_le _, rfl, rfl, rfl, HLO.out, HHI.out, HP4.out, hz4, HB4.out⟩
    case round =>
      rename_i wr
      obtain ⟨k, zl, zh, hk, rfl, rfl, rfl, HL, HH, HP, HZ, HB⟩ := hrel
      have hz := HZ.out
      by_cases hlt : k < n
      · obtain ⟨b', off', x', hA, hbb', hlk, hcx⟩ := GL.out (f + k) (by omega)
        injection hA with hA
        injection hA with e1 e2
        subst e1 e2
        have hfx := HOK.out (f + k) x' hlk
        have HQP := Lib.hid (fun w' => place_any x'.fb x'.fa pr hfx.1 hfx.2 (by omega) (by omega) w')
        have hsk : S[k]? = some x' := by rw [HSA.out k hlt, hlk]
        have HL2 := Lib.hid (low_step HL.out hsk)
        have HH2 := Lib.hid (high_step HH.out hsk)
        have e : off + (f + k) * 8 = off + f * 8 + k * 8 := by omega
        rw [e] at hcx
        obtain ⟨c0, c1, c2, c3, c4, c5, c6, c7⟩ := (hcx.below HB.out hbb').eight
        have hpa := fun o => (HP.out.alloc hz o).six
        have pa3 := fun o => (hpa o).2.2.2.1
        have HXB : Hid (CellsAt (wr.alloc (.cells #[.int .i64 x'.k, .int .i64 x'.d, .int .i64 x'.fb, .int .i64 x'.fa, .int .i64 x'.tb, .int .i64 x'.ta, .int .i64 x'.c, .int .i64 x'.r] 48)) wr.heap.size 0 x'.cells) := fun j u hu => by
          rcases j with _ | _ | _ | _ | _ | _ | _ | _ | j <;> simp at hu <;> subst hu <;> simp [go_sem]
        clear hlk hfx hsk hcx hpa e HL HH
        generalize plc x'.fb x'.fa pr = y at *
        by_cases h1 : y < zl
        · by_cases h2 : zh < y
          · skip
            go_wp2_with fail
            refine (HQP.out _).mono ?_
            rintro e w5 ⟨rfl, hb5⟩
            have hbw := (Below.refl wr.heap.size wr).alloc (Nat.le_refl _) (.cells #[.int .i64 x'.k, .int .i64 x'.d, .int .i64 x'.fb, .int .i64 x'.fa, .int .i64 x'.tb, .int .i64 x'.ta, .int .i64 x'.c, .int .i64 x'.r] 48)
            have HB5 := Lib.hid (hbw.trans (hb5.mono hbw.size))
            obtain ⟨y0, y1, y2, y3, y4, y5, y6, y7⟩ := (HXB.out.below hb5 (by simp)).eight
            have hz5 : wr.heap.size < w5.heap.size := Nat.lt_of_lt_of_le (by simp) hb5.size
            have p3 := (HP.out.below HB5.out hz).six.2.2.2.1
            clear hb5 hbw c0 c1 c2 c3 c4 c5 c6 c7 pa3
            go_wp2_with fail
            refine (HQP.out _).mono ?_
            rintro e w6 ⟨rfl, hb6⟩
            have HB6 := Lib.hid (HB5.out.trans (hb6.mono HB5.out.size))
            have hz6 : w5.heap.size ≤ w6.heap.size := hb6.size
            clear hb6 p3 y0 y1 y2 y3 y4 y5 y6 y7
            go_wp2
            exact ⟨⟨k + 1, _, _, by omega, by go_num, rfl, rfl, (by have hq := HL2.out; unfold mn at hq; first | (rw [if_pos (show y < zl by omega)] at hq; exact hq) | (rw [if_neg (show ¬ y < zl by omega)] at hq; exact hq)), (by have hq := HH2.out; unfold mx at hq; first | (rw [if_pos (show zh < y by omega)] at hq; exact hq) | (rw [if_neg (show ¬ zh < y by omega)] at hq; exact hq)), HP.out.below HB6.out hz, by show w.heap.size < w6.heap.size; omega, HB.out.trans (HB6.out.mono HB.out.size)⟩, by simp [intOf]; omega⟩
          · skip
            go_wp2_with fail
            refine (HQP.out _).mono ?_
            rintro e w5 ⟨rfl, hb5⟩
            have hbw := (Below.refl wr.heap.size wr).alloc (Nat.le_refl _) (.cells #[.int .i64 x'.k, .int .i64 x'.d, .int .i64 x'.fb, .int .i64 x'.fa, .int .i64 x'.tb, .int .i64 x'.ta, .int .i64 x'.c, .int .i64 x'.r] 48)
            have HB5 := Lib.hid (hbw.trans (hb5.mono hbw.size))
            obtain ⟨y0, y1, y2, y3, y4, y5, y6, y7⟩ := (HXB.out.below hb5 (by simp)).eight
            have hz5 : wr.heap.size < w5.heap.size := Nat.lt_of_lt_of_le (by simp) hb5.size
            have p3 := (HP.out.below HB5.out hz).six.2.2.2.1
            clear hb5 hbw c0 c1 c2 c3 c4 c5 c6 c7 pa3
            go_wp2_with fail
            refine (HQP.out _).mono ?_
            rintro e w6 ⟨rfl, hb6⟩
            have HB6 := Lib.hid (HB5.out.trans (hb6.mono HB5.out.size))
            have hz6 : w5.heap.size ≤ w6.heap.size := hb6.size
            clear hb6 p3 y0 y1 y2 y3 y4 y5 y6 y7
            go_wp2
            exact ⟨⟨k + 1, _, _, by omega, by go_num, rfl, rfl, (by have hq := HL2.out; unfold mn at hq; first | (rw [if_pos (show y < zl by omega)] at hq; exact hq) | (rw [if_neg (show ¬ y < zl by omega)] at hq; exact hq)), (by have hq := HH2.out; unfold mx at hq; first | (rw [if_pos (show zh < y by omega)] at hq; exact hq) | (rw [if_neg (show ¬ zh < y by omega)] at hq; exact hq)), HP.out.below HB6.out hz, by show w.heap.size < w6.heap.size; omega, HB.out.trans (HB6.out.mono HB.out.size)⟩, by simp [intOf]; omega⟩
        · by_cases h2 : zh < y
          · skip
            go_wp2_with fail
            refine (HQP.out _).mono ?_
            rintro e w5 ⟨rfl, hb5⟩
            have hbw := (Below.refl wr.heap.size wr).alloc (Nat.le_refl _) (.cells #[.int .i64 x'.k, .int .i64 x'.d, .int .i64 x'.fb, .int .i64 x'.fa, .int .i64 x'.tb, .int .i64 x'.ta, .int .i64 x'.c, .int .i64 x'.r] 48)
            have HB5 := Lib.hid (hbw.trans (hb5.mono hbw.size))
            obtain ⟨y0, y1, y2, y3, y4, y5, y6, y7⟩ := (HXB.out.below hb5 (by simp)).eight
            have hz5 : wr.heap.size < w5.heap.size := Nat.lt_of_lt_of_le (by simp) hb5.size
            have p3 := (HP.out.below HB5.out hz).six.2.2.2.1
            clear hb5 hbw c0 c1 c2 c3 c4 c5 c6 c7 pa3
            go_wp2_with fail
            refine (HQP.out _).mono ?_
            rintro e w6 ⟨rfl, hb6⟩
            have HB6 := Lib.hid (HB5.out.trans (hb6.mono HB5.out.size))
            have hz6 : w5.heap.size ≤ w6.heap.size := hb6.size
            clear hb6 p3 y0 y1 y2 y3 y4 y5 y6 y7
            go_wp2
            exact ⟨⟨k + 1, _, _, by omega, by go_num, rfl, rfl, (by have hq := HL2.out; unfold mn at hq; first | (rw [if_pos (show y < zl by omega)] at hq; exact hq) | (rw [if_neg (show ¬ y < zl by omega)] at hq; exact hq)), (by have hq := HH2.out; unfold mx at hq; first | (rw [if_pos (show zh < y by omega)] at hq; exact hq) | (rw [if_neg (show ¬ zh < y by omega)] at hq; exact hq)), HP.out.below HB6.out hz, by show w.heap.size < w6.heap.size; omega, HB.out.trans (HB6.out.mono HB.out.size)⟩, by simp [intOf]; omega⟩
          · skip
            go_wp2_with fail
            refine (HQP.out _).mono ?_
            rintro e w5 ⟨rfl, hb5⟩
            have hbw := (Below.refl wr.heap.size wr).alloc (Nat.le_refl _) (.cells #[.int .i64 x'.k, .int .i64 x'.d, .int .i64 x'.fb, .int .i64 x'.fa, .int .i64 x'.tb, .int .i64 x'.ta, .int .i64 x'.c, .int .i64 x'.r] 48)
            have HB5 := Lib.hid (hbw.trans (hb5.mono hbw.size))
            obtain ⟨y0, y1, y2, y3, y4, y5, y6, y7⟩ := (HXB.out.below hb5 (by simp)).eight
            have hz5 : wr.heap.size < w5.heap.size := Nat.lt_of_lt_of_le (by simp) hb5.size
            have p3 := (HP.out.below HB5.out hz).six.2.2.2.1
            clear hb5 hbw c0 c1 c2 c3 c4 c5 c6 c7 pa3
            go_wp2_with fail
            refine (HQP.out _).mono ?_
            rintro e w6 ⟨rfl, hb6⟩
            have HB6 := Lib.hid (HB5.out.trans (hb6.mono HB5.out.size))
            have hz6 : w5.heap.size ≤ w6.heap.size := hb6.size
            clear hb6 p3 y0 y1 y2 y3 y4 y5 y6 y7
            go_wp2
            exact ⟨⟨k + 1, _, _, by omega, by go_num, rfl, rfl, (by have hq := HL2.out; unfold mn at hq; first | (rw [if_pos (show y < zl by omega)] at hq; exact hq) | (rw [if_neg (show ¬ y < zl by omega)] at hq; exact hq)), (by have hq := HH2.out; unfold mx at hq; first | (rw [if_pos (show zh < y by omega)] at hq; exact hq) | (rw [if_neg (show ¬ zh < y by omega)] at hq; exact hq)), HP.out.below HB6.out hz, by show w.heap.size < w6.heap.size; omega, HB.out.trans (HB6.out.mono HB.out.size)⟩, by simp [intOf]; omega⟩
      · have HE1 := Lib.hid (low_end HL.out (by have := HSL.out; omega))
        have HE2 := Lib.hid (high_end HH.out (by have := HSL.out; omega))
        go_wp2
        go_ret3
        exact ⟨by rw [HN.out, HE1.out, HE2.out]; rfl, HB.out⟩

end Go.Proofs.Ythpgbklcbmpacaa
