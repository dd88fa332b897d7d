/-
  SpanOf of the reference.
-/
import Derived.Test.YthpgbklcbmpacaaSpan
import Derived.Deep.RegionWith
import Derived.Deep.Cut
import Derived.BigQuiet
namespace Go.Proofs.Ythpgbklcbmpacaa
set_option linter.unusedVariables false
set_option linter.unusedSimpArgs false
open Go.RowKit

theorem l00Min_s (a b : Int) (w : World) : Calls Try.prog 29 #[.int .i64 a, .int .i64 b] w fun e w' => e = .returned (.int .i64 (mn a b)) ∧ w = w' := by
  by_cases h : a < b
  · rw [show mn a b = a by unfold mn; split <;> omega]
    go_enter Try.func29, Try.ntmps29
    go_wp2
    go_ret
    exact ⟨rfl, rfl⟩
  · rw [show mn a b = b by unfold mn; split <;> omega]
    go_enter Try.func29, Try.ntmps29
    go_wp2
    go_ret
    exact ⟨rfl, rfl⟩
theorem l00Mx_s (a b : Int) (w : World) : Calls Try.prog 30 #[.int .i64 a, .int .i64 b] w fun e w' => e = .returned (.int .i64 (mx a b)) ∧ w = w' := by
  by_cases h : b < a
  · rw [show mx a b = a by unfold mx; split <;> omega]
    go_enter Try.func30, Try.ntmps30
    go_wp2
    go_ret
    exact ⟨rfl, rfl⟩
  · rw [show mx a b = b by unfold mx; split <;> omega]
    go_enter Try.func30, Try.ntmps30
    go_wp2
    go_ret
    exact ⟨rfl, rfl⟩
theorem mem_any (l : List Pas) (x : Pas) : decide (x ∈ l) = l.any (fun y => decide (y = x)) := by
  rw [Bool.eq_iff_iff]
  simp only [decide_eq_true_eq, List.any_eq_true]
  exact ⟨fun h => ⟨x, h, rfl⟩, fun ⟨y, h, e⟩ => e ▸ h⟩

set_option maxHeartbeats 8000000 in
set_option maxRecDepth 100000 in
theorem specSpan_any (v : Value) (l : List Opr) (p : Pas) (w : World) (hl : RdO w w.heap.size v l) :
    Calls Try.prog 15 #[v, p.v] w fun e w' => e = .returned (spnV l p) ∧ Below w.heap.size w w' := by
  have HB0 := Lib.hid (show Below w.heap.size w (w.alloc (.cells #[.int .i64 p.k, .int .i64 p.d, .int .i64 p.c, .int .i64 p.r, .int .i64 p.f, .int .i64 p.n] 38)) from (Below.refl _ _).alloc (Nat.le_refl _) _)
  have HP0 : Hid (CellsAt (w.alloc (.cells #[.int .i64 p.k, .int .i64 p.d, .int .i64 p.c, .int .i64 p.r, .int .i64 p.f, .int .i64 p.n] 38)) w.heap.size 0 p.cells) := fun j u hu => by
    rcases j with _ | _ | _ | _ | _ | _ | j <;> simp at hu <;> subst hu <;> simp [go_sem]
  have HZ0 := Lib.hid (show w.heap.size < (w.alloc (.cells #[.int .i64 p.k, .int .i64 p.d, .int .i64 p.c, .int .i64 p.r, .int .i64 p.f, .int .i64 p.n] 38)).heap.size by simp)
  have HL0 := Lib.hid ((hl.below HB0.out).more HB0.out.size)
  cases hok : opsB 24 l
  · have HN := Lib.hid (spn_bad (p := p) hok)
    have HV := Lib.hid (l09Ops_any v l _ HL0.out)
    rw [hok] at HV
    obtain ⟨A, N, c, rfl, hbig, hln, gl⟩ := hl
    clear hok gl hln
    go_enter Try.func15, Try.ntmps15
    go_wp2_with fail
    refine HV.out.mono ?_
    rintro e w1 ⟨rfl, hb1⟩
    have HB1 := Lib.hid (HB0.out.trans (hb1.mono HB0.out.size))
    clear hb1
    go_wp2
    go_ret3
    exact ⟨by rw [HN.out]; rfl, HB1.out⟩
  have HV := Lib.hid (l09Ops_any v l _ HL0.out)
  rw [hok] at HV
  have HQ1 := Lib.hid (fun (w1 : World) (h : Below w.heap.size w w1) => l09Passes_any 24 v l w1 ((hl.below h).more h.size) hok)
  have HN0 := Lib.hid (fun h => spn_none hok (p := p) h)
  have HN1 := Lib.hid (fun h => spn_yes hok (p := p) h)
  have HIN := Lib.hid (fun h => psL_in hok (p := p) h)
  have HOK := Lib.hid (fun (k : Nat) (x : Opr) (hx : l[k]? = some x) => okOp_fa (ops_at hok hx))
  have hN' := ops_len hok
  have HPL := Lib.hid (show (psL l).length ≤ 1500 by have := psGo_len l 0 0 none []; unfold psL; simp at this; omega)
  generalize hF : decide (p ∈ psL l) = F
  have HFM := Lib.hid (show decide (p ∈ psL l) = F from hF)
  have HF : Hid (F = (false || ((psL l).drop 0).any (fun y => decide (y = p)))) := by show F = _; rw [← hF, mem_any]; rfl
  obtain ⟨A, N, c, rfl, hbig, hln, gl⟩ := hl
  have hN : N ≤ 1500 := by have := hln.out; omega
  have HLN := Lib.hid hln.out
  have GL := Lib.hid gl
  clear hok gl hln hN' hF
  go_enter Try.func15, Try.ntmps15
  go_wp2_with fail
  refine HV.out.mono ?_
  rintro e w1 ⟨rfl, hb1⟩
  have HB1 := Lib.hid (HB0.out.trans (hb1.mono HB0.out.size))
  have HP1 := Lib.hid (HP0.out.below hb1 HZ0.out)
  have hz1 : w.heap.size < w1.heap.size := Nat.lt_of_lt_of_le HZ0.out hb1.size
  clear hb1 HP0 HZ0 HL0
  go_wp2_with fail
  refine (HQ1.out _ HB1.out).mono ?_
  rintro e w2 ⟨v2, rfl, ho, hb2⟩
  have HO2 := Lib.hid (RdS.of_own Pas.len ho)
  obtain ⟨A2, c2, rfl, -⟩ := ho.cells
  have HB2 := Lib.hid (HB1.out.trans (hb2.mono HB1.out.size))
  have HP2 := Lib.hid (HP1.out.below hb2 hz1)
  have hz2 : w.heap.size < w2.heap.size := Nat.lt_of_lt_of_le hz1 hb2.size
  clear hb2 ho HP1 HQ1
  generalize hM : (psL l).length = M at *
  have HM := Lib.hid hM
  have hM1 : M ≤ 1500 := HPL.out
  generalize hL : psL l = L at *
  clear hM HPL
  go_wp2
  go_loopw [8, 9] (fun fd i wr => ∃ (k : Nat) (fb : Bool), k ≤ M ∧ i = .int .i64 k ∧ fd = .bool fb ∧ Hid (F = (fb || (L.drop k).any (fun y => decide (y = p)))) ∧ Hid (Below w2.heap.size w2 wr)) (fun _ i _ => M - (intOf i).toNat)
  case atStart => exact ⟨0, false, Nat.zero_le _, rfl, rfl, HF.out, Below.refl _ _⟩
  case round =>
    rename_i wr
    obtain ⟨k, fb, hk, rfl, rfl, HD, HB⟩ := hrel
    by_cases hlt : k < M
    · obtain ⟨p0, p1, p2, p3, p4, p5⟩ := (HP2.out.below HB.out hz2).six
      obtain ⟨b, off, y, rfl, hbb, hlk, hc⟩ := (HO2.out.below HB.out).at_ hlt
      obtain ⟨c0, c1, c2, c3, c4, c5⟩ := hc.six
      cases fb
      · have HT := Lib.hid (show F = (decide (y = p) || (L.drop (k + 1)).any (fun y => decide (y = p))) by rw [HD.out, drop_of_get hlk]; simp)
        have heq := fun W => eql_ps y p W
        generalize decide (y = p) = fy at *
        clear hlk hc
        go_wp2
        go_quiet (fail)
        have HB3 := Lib.hid (below_drewN HB.out nq)
        go_wp2
        exact ⟨⟨k + 1, fy, by omega, by go_num, rfl, HT.out, HB3.out⟩, by simp [intOf]; omega⟩
      · have HT := Lib.hid (show F = (true || (L.drop (k + 1)).any (fun y => decide (y = p))) by rw [HD.out]; simp)
        clear hlk hc
        go_wp2
        go_quiet (fail)
        have HB3 := Lib.hid (below_drewN HB.out nq)
        go_wp2
        exact ⟨⟨k + 1, true, by omega, by go_num, rfl, HT.out, HB3.out⟩, by simp [intOf]; omega⟩
    · have HE := Lib.hid (show F = fb by rw [HD.out, List.drop_of_length_le (by have := HM.out; omega)]; simp)
      have HB3 := Lib.hid (HB2.out.trans (HB.out.mono HB2.out.size))
      have HP3 := Lib.hid (HP2.out.below HB.out hz2)
      have hz3 : w.heap.size < wr.heap.size := Nat.lt_of_lt_of_le hz2 HB.out.size
      cases fb
      · have hm : ¬ p ∈ L := by have := HFM.out; rw [HE.out] at this; simpa using this
        have HN := Lib.hid (HN0.out hm)
        clear hm
        go_wp2
        go_ret3
        exact ⟨by rw [HN.out]; rfl, HB3.out⟩
      have hm : p ∈ L := by have := HFM.out; rw [HE.out] at this; simpa using this
      have HN := Lib.hid (HN1.out hm)
      have hin := HIN.out hm
      clear hm HN0 HN1 HIN HFM HF HD HE HM HB HO2 HP2
      obtain ⟨pk, pd, pc, pr, pf, pn⟩ := p
      obtain ⟨hf0, hn1, hfn, hr0, hr1⟩ := hin
      simp only at hf0 hn1 hfn hr0 hr1
      obtain ⟨f, rfl⟩ : ∃ f : Nat, pf = f := ⟨pf.toNat, by omega⟩
      obtain ⟨n, rfl⟩ : ∃ n : Nat, pn = n := ⟨pn.toNat, by omega⟩
      have hlN := HLN.out
      have hfN : f + n ≤ N := by omega
      clear hfn hlN
      obtain ⟨b, off, x, rfl, hbb, hlk, hcx⟩ := GL.out f (by omega)
      have hcx3 := hcx.below HB3.out hbb
      have HZ := Lib.hid (show spnZ l ⟨pk, pd, pc, pr, f, n⟩ = plc x.fb x.fa pr by unfold spnZ; simp only [Int.toNat_natCast]; rw [hlk])
      have hfx := HOK.out f x hlk
      have HQP := Lib.hid (fun w' => l07Place_any x.fb x.fa pr hfx.1 hfx.2 (by omega) (by omega) w')
      clear hlk hfx hcx
      rw [HZ.out] at HN
      generalize plc x.fb x.fa pr = z0 at *
      have hpg := HP3.out.grow6
      have hxg := hcx3.grow8
      obtain ⟨p0, p1, p2, p3, p4, p5⟩ := hpg
      obtain ⟨x0, x1, x2, x3, x4, x5, x6, x7⟩ := hxg
      go_wp2
      refine wp_region_grow (by kernel_rfl) (by kernel_rfl) ?_
      repeat (go_big_quiet_step ((go_at_call 28; exact calls_grow (HQP.out _))))
      refine wpQuiet_nil ?_
      intro w4 hb4
      clear p0 p1 p2 p3 p4 p5 x0 x1 x2 x3 x4 x5 x6 x7 hcx3 HZ
      have HB4 := Lib.hid (HB3.out.trans (hb4.mono HB3.out.size))
      have HP4 := Lib.hid (HP3.out.below hb4 hz3)
      have hz4 : w.heap.size < w4.heap.size := Nat.lt_of_lt_of_le hz3 hb4.size
      obtain ⟨p0, p1, p2, p3, p4, p5⟩ := HP4.out.six
      have hwr : IntKind.i64.wrap ((f : Int) + (n : Int)) = ((f + n : Nat) : Int) := by rw [IntWalk.i64_in _ (by omega)]; omega
      clear hb4 HQP
      generalize hS : spnS l ⟨pk, pd, pc, pr, f, n⟩ = S at *
      generalize hLO : lowG pr z0 S = LO at *
      generalize hHI : highG pr z0 S = HI at *
      have HLO := Lib.hid (show LO = lowG pr z0 (S.drop 0) from hLO.symm)
      have HHI := Lib.hid (show HI = highG pr z0 (S.drop 0) from hHI.symm)
      have HSA := Lib.hid (fun k (hk : k < n) => show S[k]? = l[f + k]? by rw [← hS]; exact spnS_at rfl rfl hk)
      have HSL := Lib.hid (show S.length ≤ n by rw [← hS]; exact spnS_len rfl rfl)
      clear hS hLO hHI
      go_wp2
      clear p0 p1 p2 p3 p4 p5
      go_loopw [10, 11, 12] (fun lo hi i wr => ∃ (k : Nat) (zl zh : Int), k ≤ n ∧ i = .int .i64 (f + k : Nat) ∧ lo = .int .i64 zl ∧ hi = .int .i64 zh ∧ Hid (LO = lowG pr zl (S.drop k)) ∧ Hid (HI = highG pr zh (S.drop k)) ∧ Hid (CellsAt wr w.heap.size 0 [.int .i64 pk, .int .i64 pd, .int .i64 pc, .int .i64 pr, .int .i64 f, .int .i64 n]) ∧ Hid (w.heap.size < wr.heap.size) ∧ Hid (Below w.heap.size w wr)) (fun _ _ i _ => f + n - (intOf i).toNat)
      case atStart => exact ⟨0, z0, z0, Nat.zero_le _, rfl, rfl, rfl, HLO.out, HHI.out, HP4.out, hz4, HB4.out⟩
      case round =>
        rename_i wq
        obtain ⟨k, zl, zh, hk, rfl, rfl, rfl, HL, HH, HP, HZ, HB⟩ := hrel
        have hz := HZ.out
        obtain ⟨p0, p1, p2, p3, p4, p5⟩ := HP.out.six
        by_cases hlt : k < n
        · obtain ⟨b', off', x', hA, hbb', hlk, hcx⟩ := GL.out (f + k) (by omega)
          injection hA with hA
          injection hA with e1 e2
          subst e1 e2
          have hfx := HOK.out (f + k) x' hlk
          have HQP := Lib.hid (fun w' => l07Place_any x'.fb x'.fa pr hfx.1 hfx.2 (by omega) (by omega) w')
          have hsk : S[k]? = some x' := by rw [HSA.out k hlt, hlk]
          have HL2 := Lib.hid (low_step HL.out hsk)
          have HH2 := Lib.hid (high_step HH.out hsk)
          have HCX := Lib.hid (hcx.below HB.out hbb')
          have hlt2 : ((f + k : Nat) : Int) < ((f + n : Nat) : Int) := by omega
          clear hlk hfx hsk hcx HL HH
          generalize plc x'.fb x'.fa pr = y at *
          have HMN := Lib.hid (fun w' => l00Min_s zl y w')
          have HMX := Lib.hid (fun w' => l00Mx_s zh y w')
          generalize mn zl y = yl at *
          generalize mx zh y = yh at *
          go_wp2
          clear p0 p1 p2 p3 p4 p5
          obtain ⟨x0, x1, x2, x3, x4, x5, x6, x7⟩ := HCX.out.grow8
          obtain ⟨p0, p1, p2, p3, p4, p5⟩ := HP.out.grow6
          refine wp_region_grow (by kernel_rfl) (by kernel_rfl) ?_
          repeat (go_big_quiet_step ((go_at_call 28; exact calls_grow (HQP.out _))))
          refine wpQuiet_nil ?_
          intro w5 hb5
          clear p0 p1 p2 p3 p4 p5 x0 x1 x2 x3 x4 x5 x6 x7
          have HB5 := Lib.hid hb5
          clear hb5
          go_wp2_with fail
          refine (HMN.out _).mono ?_
          rintro e w6 ⟨rfl, rfl⟩
          go_wp2_with fail
          refine (HMX.out _).mono ?_
          rintro e w6 ⟨rfl, rfl⟩
          go_wp2
          exact ⟨⟨k + 1, _, _, by omega, by go_num, rfl, rfl, HL2.out, HH2.out, HP.out.below HB5.out hz, Nat.lt_of_lt_of_le hz HB5.out.size, HB.out.trans (HB5.out.mono HB.out.size)⟩, by simp [intOf]; omega⟩
        · have HE1 := Lib.hid (low_end HL.out (by have := HSL.out; omega))
          have HE2 := Lib.hid (high_end HH.out (by have := HSL.out; omega))
          have hlt2 : ¬ ((f + k : Nat) : Int) < ((f + n : Nat) : Int) := by omega
          go_wp2
          go_ret3
          exact ⟨by rw [HN.out, HE1.out, HE2.out]; rfl, HB.out⟩

end Go.Proofs.Ythpgbklcbmpacaa
